import Derived.Test.YtnkepmfgmfeabaaGreatDoorR6
import Derived.Test.YtnkepmfgmfeabaaGreatDoorR5
set_option linter.unusedVariables false
set_option linter.unusedSimpArgs false
namespace Go.Proofs.YtnkepmfgmfeabaaGreatDoor
open Go Go.RowKit
namespace Av
def ptStep : List PT := .i .i64 :: (ptStm ++ [.s])
def StepsIn (w : World) (v : Value) (l : List Step29) : Prop := Rep (rowSt w) (.d (stepsP l)) v
theorem fits_step {ps : List PD} (h : fitsL ptStep ps) : ∃ x : Step29, ps = stepC x := by
 obtain ⟨p1, r1, rfl, h1, k1⟩ := fits_cons h
 obtain ⟨k, rfl⟩ := fits_i h1
 obtain ⟨s, r, rfl, k2⟩ := fits_stm (r := []) k1
 obtain ⟨p2, r2, rfl, h2, k3⟩ := fits_cons k2
 obtain ⟨t, rfl⟩ := fits_s h2
 exact ⟨⟨k, s, t⟩, by rw [fits_nil k3]; simp [stepC]⟩
set_option maxRecDepth 100000 in
theorem open_steps {H : Type} {enc : TypeId × Value → H} {w : World} {b0 : Nat} {v : Value} {d : DataW H} {p : List MemPlace} (hv : Value.okWide Tryz.prog w .any b0 35 v) (h : DataW.Trod enc Tryz.prog w 0 (fun _ => true) true 35 v d p) :
  ∃ l, StepsIn w v l := by
 obtain ⟨a, n, c, rfl⟩ := Go.WideShapes.okWide_slice Tryz.underlying35 hv
 obtain ⟨n, hn⟩ := h
 obtain ⟨ps, h1, h2⟩ := open_pd (s := rowSt w) rfl (rowSt_imm w) n 8 35 _ _ [.sl ptStep] (by kernel_rfl) hn
 obtain ⟨p, r, rfl, h3, h4⟩ := fits_cons h1
 have h5 := fits_nil h4
 subst h5
 obtain ⟨l, rfl, hl⟩ := fits_sl h3
 obtain ⟨xs, rfl⟩ := list_of (f := stepC) (l := l) fun it hi => fits_step (hl it hi)
 refine ⟨xs, ?_⟩
 simp only [dL, List.map_cons, List.map_nil, RepL] at h2
 obtain ⟨x, t, e, h6, rfl⟩ := h2
 simp only [Value.cells] at e
 cases e
 exact h6
end Av
theorem enduseRevokes.walk {w : World} (hT : Tabs w) (a0 : ByteArray) (h0 : a0.size ≤ maxLen) (v1 : Value) (a1 : List Av.Step29) (h1 : Av.StepsIn w v1 a1) : Calls Tryz.prog 4 #[.string a0, v1] w fun e w' => e = .returned (.bool true) ∧ Below w.heap.size w w' :=
 Av.calls_of_a (Av.revokes_a hT a0 a1) (.cons (by simp only [Av.Rep, Av.PRep, Av.small]; refine ⟨trivial, ?_⟩; unfold maxLen at h0; omega) (.one h1)) fun r H' h => h
end Go.Proofs.YtnkepmfgmfeabaaGreatDoor
