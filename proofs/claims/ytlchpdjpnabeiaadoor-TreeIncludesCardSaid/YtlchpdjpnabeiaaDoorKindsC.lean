import Derived.Test.YtlchpdjpnabeiaaDoorKindsB
set_option linter.unusedVariables false
namespace Go.Proofs.YtlchpdjpnabeiaaDoor
open Go Go.RowKit

/-! The same law, each operation asked over a frame that is a letter. -/
section
variable {P : Program} {ops : Array Oper} {md : Region.Mode}
/-- what lies in a slot behind the region's operations: what the one operation that writes it has yielded, or what lay there before -/
def slotV (ops : Array Oper) (n : Nat) (a0 : Act) (u : Nat → Value) (t : Tmp) : Value :=
  match (List.range n).find? (fun i => dstOf ops i == some t) with
  | some i => u i
  | none => a0.eval (.tmp t)
def Guarded (o : Oper) (u : Nat → Value) (A S : Prop) : Prop := match o.guard with
  | none => A
  | some (g, want) => (u g = .bool want ∧ A) ∨ (u g = .bool (!want) ∧ S)
def roomB (ops : Array Oper) (n k : Nat) : Bool := (List.range n).all fun i => (match dstOf ops i with
  | some d => decide ((d : Nat) < k)
  | none => true) && (match ops[i]? with
  | some o => (match o.guard with
    | some (g, _) => decide (g < n) && (dstOf ops g).isSome
    | none => true)
  | none => true)
def FKOp (P : Program) (ops : Array Oper) (n : Nat) (B : Nat) (w0 : World) (a0 : Act) (κ : Nat → FKind) (cons : Nat → Nat → Bool) (j : Nat) (o : Oper) : Prop :=
  ∀ (u : Nat → Value) (w : World) (a : Act), Below B w0 w → B ≤ w.heap.size → (∀ i, i < n → depB ops o i = true → (κ i).φ w (u i)) →
    (∀ t, (o.looksAt ops).contains t = true → a.eval (.tmp t) = slotV ops n a0 u t) →
    Guarded o u (fkindAt P o a w B (fun b => ∃ i, i < n ∧ cons j i = true ∧ (κ i).fp (u i) b) (κ j)) ((κ j).φ w undef ∧ ∀ b, ¬ (κ j).fp undef b)
theorem evalAt {a : Act} {t : Nat} {v : Value} (h : a.tmps[t]? = some v) : a.eval (.tmp t) = v := by
  simp [Act.eval, h]
theorem evalT {a : Act} {t : Nat} {v : Value} (h : a.eval (.tmp t) = v) : a.tmps[t]?.getD undef = v := by
  rw [← h]; simp [Act.eval]
theorem slotV_at {n : Nat} (hF : KindFacts md ops n) {a0 : Act} (hr : roomB ops n a0.tmps.size = true) (u : Nat → Value) (j : Nat) (hj : j < n) (o : Oper) (ho : ops[j]? = some o) (t : Tmp) (ht : t ∈ o.looksAt ops) :
    (lexFrame ops a0 u j).tmps[t]? = (if ∃ i, i < n ∧ dstOf ops i = some t then some (slotV ops n a0 u t) else a0.tmps[t]?) ∧ (¬ (∃ i, i < n ∧ dstOf ops i = some t) → slotV ops n a0 u t = a0.eval (.tmp t)) := by
  have hlex := lexFrame_at hF a0 u j (by omega)
  by_cases hx : ∃ i, i < n ∧ dstOf ops i = some t
  · refine ⟨?_, fun h => absurd hx h⟩
    rw [if_pos hx]
    obtain ⟨i, hi, hid⟩ := hx
    have h1 := hF.look i j hi hj t o hid ho ht
    have hs : slotV ops n a0 u t = u i := by
      unfold slotV
      cases hfi : (List.range n).find? (fun i => dstOf ops i == some t) with
      | none =>
        have := List.find?_eq_none.1 hfi i (List.mem_range.2 hi)
        simp [hid] at this
      | some i' =>
        have h2 := List.find?_some hfi
        have h3 := List.mem_range.1 (List.mem_of_find?_eq_some hfi)
        have h4 : dstOf ops i' = some t := by simpa using h2
        by_cases e : i' = i
        · rw [e]
        · exact absurd hid (hF.apart i' i h3 hi e t h4)
    rw [hlex.new i t h1.1 hid, hs]
    have hrm := List.all_eq_true.1 hr i (List.mem_range.2 hi)
    simp only [hid, Bool.and_eq_true, decide_eq_true_eq] at hrm
    rw [Array.getElem?_eq_getElem (show @LT.lt Nat _ t a0.tmps.size from hrm.1)]
    rfl
  · refine ⟨?_, fun _ => ?_⟩
    · rw [if_neg hx]
      exact hlex.old t fun i hi hid => hx ⟨i, by omega, hid⟩
    · unfold slotV
      cases hfi : (List.range n).find? (fun i => dstOf ops i == some t) with
      | none => rfl
      | some i' =>
        have h2 := List.find?_some hfi
        have h3 := List.mem_range.1 (List.mem_of_find?_eq_some hfi)
        exact absurd ⟨i', h3, by simpa using h2⟩ hx
theorem fkindOp_of {n B : Nat} {w0 : World} {κ : Nat → FKind} {cons : Nat → Nat → Bool} {a0 : Act} (hF : KindFacts md ops n) (hr : roomB ops n a0.tmps.size = true) {j : Nat} {o : Oper} (hj : j < n) (ho : ops[j]? = some o)
    (h : FKOp P ops n B w0 a0 κ cons j o) : FKindOp P ops n B w0 κ cons (fun u => lexFrame ops a0 u j) j o := by
  intro u w hw hB hd
  have hv : ∀ t, (o.looksAt ops).contains t = true → (lexFrame ops a0 u j).eval (.tmp t) = slotV ops n a0 u t := fun t ht => by
    have ht' : t ∈ o.looksAt ops := by simpa using ht
    obtain ⟨h1, h2⟩ := slotV_at hF hr u j hj o ho t ht'
    by_cases hx : ∃ i, i < n ∧ dstOf ops i = some t
    · rw [if_pos hx] at h1
      exact evalAt h1
    · rw [if_neg hx] at h1
      rw [h2 hx]
      simp only [Act.eval, Array.getD_eq_getD_getElem?, h1]
  have hg := h u w (lexFrame ops a0 u j) hw hB hd hv
  unfold Guarded at hg
  show if Region.wanted o (yielded ops (lexFrame ops a0 u j).tmps) then _ else _
  cases hgu : o.guard with
  | none =>
    rw [hgu] at hg
    have : Region.wanted o (yielded ops (lexFrame ops a0 u j).tmps) = true := by unfold Region.wanted; rw [hgu]
    rw [if_pos this]
    exact hg
  | some gw =>
    obtain ⟨g, want⟩ := gw
    rw [hgu] at hg
    simp only at hg
    have hrm := List.all_eq_true.1 hr j (List.mem_range.2 hj)
    simp only [ho, hgu, Bool.and_eq_true, decide_eq_true_eq] at hrm
    obtain ⟨_, hgn, hgd⟩ := hrm
    obtain ⟨d, hd'⟩ := Option.isSome_iff_exists.1 hgd
    have hdl : d ∈ o.looksAt ops := by
      unfold Oper.looksAt
      rw [hgu]
      exact List.mem_append_right _ (by have e : (ops[g]?).bind (·.dst) = some d := hd'; simp [e])
    have h1 := (slotV_at hF hr u j hj o ho d hdl).1
    rw [if_pos ⟨g, hgn, hd'⟩] at h1
    have hs : slotV ops n a0 u d = u g := by
      unfold slotV
      cases hfi : (List.range n).find? (fun i => dstOf ops i == some d) with
      | none =>
        have := List.find?_eq_none.1 hfi g (List.mem_range.2 hgn)
        simp [hd'] at this
      | some i' =>
        have h2 := List.find?_some hfi
        have h3 := List.mem_range.1 (List.mem_of_find?_eq_some hfi)
        have h4 : dstOf ops i' = some d := by simpa using h2
        by_cases e : i' = g
        · rw [e]
        · exact absurd hd' (hF.apart i' g h3 hgn e d h4)
    rw [hs] at h1
    have hy : ∀ b, u g = .bool b → yielded ops (lexFrame ops a0 u j).tmps g = some b := fun b hb => by
      unfold yielded
      have e : (ops[g]?).bind (·.dst) = some d := hd'
      rw [e]
      simp only [Option.bind_some, h1, hb]
    rcases hg with ⟨hb, hA⟩ | ⟨hb, hS⟩
    · have : Region.wanted o (yielded ops (lexFrame ops a0 u j).tmps) = true := by unfold Region.wanted; rw [hgu]; simp only [hy _ hb]; simp
      rw [if_pos this]
      exact hA
    · have : Region.wanted o (yielded ops (lexFrame ops a0 u j).tmps) = false := by unfold Region.wanted; rw [hgu]; simp only [hy _ hb]; cases want <;> rfl
      rw [if_neg (by rw [this]; decide)]
      exact hS
/-- The asks of all operations, one below another. -/
def FKOps (P : Program) (ops : Array Oper) (n : Nat) (B : Nat) (w0 : World) (a0 : Act) (κ : Nat → FKind) (cons : Nat → Nat → Bool) : Nat → List Oper → Prop
  | _, [] => True
  | j, o :: rest => FKOp P ops n B w0 a0 κ cons j o ∧ FKOps P ops n B w0 a0 κ cons (j + 1) rest
theorem fkOps_at {n B : Nat} {w0 : World} {κ : Nat → FKind} {cons : Nat → Nat → Bool} {a0 : Act} : ∀ (l : List Oper) (k : Nat), (∀ j, j < l.length → l[j]? = ops[k + j]?) → FKOps P ops n B w0 a0 κ cons k l →
    ∀ j o, j < l.length → ops[k + j]? = some o → FKOp P ops n B w0 a0 κ cons (k + j) o
  | [], k, _, _, j, o, hj, _ => by simp at hj
  | x :: r, k, hl, h, j, o, hj, ho => by
    have h0 : ops[k]? = some x := by simpa using (hl 0 (by simp)).symm
    cases j with
    | zero =>
      have : x = o := Option.some.inj (h0.symm.trans ho)
      subst this
      exact h.1
    | succ j =>
      have := fkOps_at (n := n) (B := B) (w0 := w0) (κ := κ) (cons := cons) (a0 := a0) r (k + 1) (fun i hi => by have := hl (i + 1) (by simp; omega); simpa [Nat.add_assoc, Nat.add_comm 1 i] using this) h.2 j o (by simp at hj; omega) (by rw [← ho]; congr 1; omega)
      rw [show k + (j + 1) = k + 1 + j by omega]
      exact this
/-- A region by kinds, the whole of it, each operation over a frame that is a letter. -/
theorem wp_region_free {id : Nat} {Q : Exit → Act → World → Prop} {a : Act} {w : World} {l : List Oper} (B : Nat) (κ : Nat → FKind) (cons : Nat → Nat → Bool) (hm : P.follows .mixedOrders = true)
    (hB : kindB .any l.toArray l.length = true) (hT : tailB .any l.toArray l.length = true) (hC : consB .any l.toArray l.length cons = true) (hR : roomB l.toArray l.length a.tmps.size = true) (hBw : B ≤ w.heap.size) (hst : ∀ i, i < l.length → (κ i).Stable B)
    (hops : FKOps P l.toArray l.length B w.drew a κ cons 0 l)
    (hend : ∀ (u : Nat → Value) (w' : World), Below B w.drew w' → (∀ i, i < l.length → (∀ j, j < l.length → cons j i = false) → (κ i).φ w' (u i)) → Q .normal (lexPut u 0 l a) w') :
    (Code.region id l.toArray true).wp P Q a w := by
  have hF := kindB_facts hB
  refine wp_region_any hm ?_
  have h0 : unl (Array.replicate l.toArray.size false) l.length = l.length := unl_new _ _ hF.le
  have h1 := fkinds_any (P := P) (md := .any) (Q := Q) (a0 := a) (B := B) (w0 := w.drew) (κ := κ) (cons := cons) hF (consB_facts hC) hT hst (fun j o hj ho => by
      have := fkOps_at (P := P) (ops := l.toArray) l 0 (fun i hi => by simp) hops j o hj (by rw [Nat.zero_add]; exact ho)
      rw [Nat.zero_add] at this
      exact fkindOp_of hF hR hj ho this)
    (fun u w' hw hφ => by
      have hT' := hT
      simp only [tailB, Bool.and_eq_true] at hT'
      have := wpAny_of_seq (P := P) (md := .any) (ops := l.toArray) (Q' := Q) (l.drop l.length) l.length (headL l.toArray l.length) (lexFrame l.toArray a u l.length) w' (fun j => by simp) (by rw [List.length_drop]; exact hT'.2) (by
        rw [List.drop_length]
        have := lexPut_frame (ops := l.toArray) a u l 0 (fun j hj => by simp)
        rw [Nat.zero_add] at this
        rw [this]
        exact hend u w' hw hφ)
      rw [List.length_drop] at this
      exact this)
    l.length (Array.replicate l.toArray.size false) (fun _ => undef) a w.drew h0
    ⟨by simp, (fun j oj _ hl => by rw [getD_replicate_false] at hl; cases hl), (fun t ht htl => by simp at htl; simp [htl])⟩
    (FrameAt.nil (fun i hi => by rw [getD_replicate_false] at hi; exact absurd hi.2 (by decide))) (Below.refl _ _) hBw (fun i _ hi => by rw [getD_replicate_false] at hi; cases hi) (fun i k _ _ _ hi => by rw [getD_replicate_false] at hi; cases hi)
  have e : l.length + (l.toArray.size - l.length) = l.toArray.size := by simp
  rw [e] at h1
  exact h1
def AllStable (B : Nat) : List FKind → Prop
  | [] => True
  | κ :: r => κ.Stable B ∧ AllStable B r
theorem AllStable.at {B : Nat} : ∀ {ks : List FKind}, AllStable B ks → ∀ i, (ks.getD i anyF).Stable B
  | [], _, i => by simp; exact anyF_stable B
  | κ :: r, h, 0 => h.1
  | κ :: r, h, i + 1 => by simpa using AllStable.at h.2 i
theorem fk_enter {o : Oper} {a : Act} {w : World} {B : Nat} {C : Nat → Prop} {κ : FKind} {f : FuncId} {args : Array Value} (h : (execOp a.eval o).run P w = .ok (.enter f args) w)
    (hc : Calls P f args w (fun e w'' => ∃ v, e = .returned v ∧ FOut B C κ w w'' v)) : fkindAt P o a w B C κ := by
  unfold fkindAt
  rw [h]
  exact hc
theorem fk_step {o : Oper} {a : Act} {w w' : World} {B : Nat} {C : Nat → Prop} {κ : FKind} {v : Value} (h : (execOp a.eval o).run P w = .ok (.value v) w')
    (hc : FOut B C κ w w' v) : fkindAt P o a w B C κ := by
  unfold fkindAt
  rw [h]
  exact hc
end
end Go.Proofs.YtlchpdjpnabeiaaDoor
