import Derived.Test.YtlchpdjpnabeiaaDoorKinds
set_option linter.unusedVariables false
namespace Go.Proofs.YtlchpdjpnabeiaaDoor
open Go Go.RowKit

/-! Regions that draw their order, by kinds with footprints: an operation may write into the blocks of what it uses up. -/
/-- the blocks of C alone, and new ones, differ -/
structure Fr (C : Nat → Prop) (w w' : World) : Prop where
  os : w'.os = w.os
  tape : w'.tape = w.tape
  output : w'.output = w.output
  size : w.heap.size ≤ w'.heap.size
  block : ∀ b, b < w.heap.size → ¬ C b → w'.heap[b]? = w.heap[b]?
theorem Fr.of_ext {C : Nat → Prop} {w w' : World} (h : Ext w w') : Fr C w w' := ⟨h.os, h.tape, h.output, h.size, fun b hb _ => h.block b hb⟩
theorem Fr.below {C : Nat → Prop} {w w' : World} (h : Fr C w w') {B : Nat} (hB : B ≤ w.heap.size) (hC : ∀ b, C b → B ≤ b) : Below B w w' :=
  ⟨h.os, h.tape, h.output, h.size, fun b hb => h.block b (by omega) fun hc => by have := hC b hc; omega⟩
/-- What is known of a value, and the blocks that it owns. -/
structure FKind where
  φ : World → Value → Prop
  fp : Value → Nat → Prop
def FKind.Stable (B : Nat) (κ : FKind) : Prop := ∀ w w' v, Below B w w' → (∀ b, κ.fp v b → w'.heap[b]? = w.heap[b]?) → κ.φ w v → κ.φ w' v
def valF (c : Value) : FKind := ⟨fun _ v => v = c, fun _ _ => False⟩
theorem valF_stable (B : Nat) (c : Value) : FKind.Stable B (valF c) := fun _ _ _ _ _ h => h
def anyF : FKind := ⟨fun _ _ => True, fun _ _ => False⟩
theorem anyF_stable (B : Nat) : FKind.Stable B anyF := fun _ _ _ _ _ h => h

/-- the outcome of operation j: C are the blocks that it may write -/
def FOut (B : Nat) (C : Nat → Prop) (κ : FKind) (w w' : World) (v : Value) : Prop :=
  Fr C w w' ∧ κ.φ w' v ∧ ∀ b, κ.fp v b → (w.heap.size ≤ b ∨ C b) ∧ b < w'.heap.size
def fkindUpon (P : Program) (B : Nat) (C : Nat → Prop) (κ : FKind) (w : World) : Result Next → Prop
  | .ok (.value u) w' => FOut B C κ w w' u
  | .ok .skip w' => FOut B C κ w w' undef
  | .ok (.enter f args) w' => Calls P f args w' (fun e w'' => ∃ v, e = .returned v ∧ FOut B C κ w w'' v)
  | _ => False
def fkindAt (P : Program) (o : Oper) (a : Act) (w : World) (B : Nat) (C : Nat → Prop) (κ : FKind) : Prop := fkindUpon P B C κ w ((execOp a.eval o).run P w)

section
variable {P : Program} {ops : Array Oper} {md : Region.Mode}
theorem wp_of_fkindAt {o : Oper} {a : Act} {w : World} {B : Nat} {C : Nat → Prop} {κ : FKind} {K : Act → World → Prop} {Q : Exit → Act → World → Prop} (h : fkindAt P o a w B C κ)
    (hK : ∀ v w', FOut B C κ w w' v → K (a.put o.dst v) w') : o.wp P a w K Q := by
  unfold fkindAt at h
  unfold Oper.wp
  generalize (execOp a.eval o).run P w = r at *
  cases r with
  | ok n w' =>
    cases n <;> simp only [fkindUpon] at h <;> simp only [Oper.upon]
    case value u => exact hK _ _ h
    case skip => exact hK _ _ h
    case enter f args => exact h.mono fun e w'' ⟨v, he, h1⟩ => by subst he; exact hK _ _ h1
  | halt x w' => simp only [fkindUpon] at h
theorem fkindUpon_value {B : Nat} {C : Nat → Prop} {κ : FKind} {w w' : World} {u : Value} : fkindUpon P B C κ w (.ok (.value u) w') = FOut B C κ w w' u := rfl
theorem fkindUpon_skip {B : Nat} {C : Nat → Prop} {κ : FKind} {w w' : World} : fkindUpon P B C κ w (.ok .skip w') = FOut B C κ w w' undef := rfl
theorem fkindUpon_enter {B : Nat} {C : Nat → Prop} {κ : FKind} {w w' : World} {f : FuncId} {args : Array Value} : fkindUpon P B C κ w (.ok (.enter f args) w') = Calls P f args w' (fun e w'' => ∃ v, e = .returned v ∧ FOut B C κ w w'' v) := rfl
theorem FOut.val {B : Nat} {C : Nat → Prop} {w : World} {c v : Value} (h : v = c) : FOut B C (valF c) w w v := ⟨Fr.of_ext (Ext.refl w), h, fun _ hf => hf.elim⟩
theorem FOut.any {B : Nat} {C : Nat → Prop} {w : World} {v : Value} : FOut B C anyF w w v := ⟨Fr.of_ext (Ext.refl w), trivial, fun _ hf => hf.elim⟩
theorem FOut.valExt {B : Nat} {C : Nat → Prop} {w w' : World} {c v : Value} (he : Ext w w') (h : v = c) : FOut B C (valF c) w w' v := ⟨Fr.of_ext he, h, fun _ hf => hf.elim⟩

/-- who uses up what: cons j i: operation j uses up the value of operation i -/
def consB (md : Region.Mode) (ops : Array Oper) (n : Nat) (cons : Nat → Nat → Bool) : Bool :=
  (List.range n).all fun j => (List.range n).all fun i => !cons j i || (Region.waitsFor md ops j i && (List.range n).all fun k =>
    (k == j || (!cons k i && (match ops[k]? with
      | some ok => !depB ops ok i || Region.waitsFor md ops j k
      | none => true))))
structure ConsFacts (md : Region.Mode) (ops : Array Oper) (n : Nat) (cons : Nat → Nat → Bool) : Prop where
  wait : ∀ i j, i < n → j < n → cons j i = true → Region.waitsFor md ops j i = true
  one : ∀ i j k, i < n → j < n → k < n → cons j i = true → cons k i = true → k = j
  look : ∀ i j k ok, i < n → j < n → k < n → cons j i = true → k ≠ j → ops[k]? = some ok → depB ops ok i = true → Region.waitsFor md ops j k = true
theorem consB_facts {n : Nat} {cons : Nat → Nat → Bool} (h : consB md ops n cons = true) : ConsFacts md ops n cons := by
  have key : ∀ i j, i < n → j < n → cons j i = true → Region.waitsFor md ops j i = true ∧ ∀ k, k < n → (k = j ∨ (cons k i = false ∧ (∀ ok, ops[k]? = some ok → depB ops ok i = true → Region.waitsFor md ops j k = true))) := by
    intro i j hi hj hc
    have h1 := List.all_eq_true.1 (List.all_eq_true.1 h j (List.mem_range.2 hj)) i (List.mem_range.2 hi)
    simp only [hc, Bool.not_true, Bool.false_or, Bool.and_eq_true] at h1
    refine ⟨h1.1, fun k hk => ?_⟩
    have h2 := List.all_eq_true.1 h1.2 k (List.mem_range.2 hk)
    simp only [Bool.or_eq_true, beq_iff_eq, Bool.and_eq_true, Bool.not_eq_true'] at h2
    rcases h2 with h2 | ⟨h2, h3⟩
    · exact .inl h2
    · refine .inr ⟨h2, fun ok ho hd => ?_⟩
      simp only [ho, Bool.or_eq_true, Bool.not_eq_true'] at h3
      rcases h3 with h3 | h3
      · rw [hd] at h3; cases h3
      · exact h3
  refine ⟨fun i j hi hj hc => (key i j hi hj hc).1, fun i j k hi hj hk hc hc2 => ?_, fun i j k ok hi hj hk hc hne ho hd => ?_⟩
  · rcases (key i j hi hj hc).2 k hk with h | h
    · exact h
    · rw [h.1] at hc2; cases hc2
  · rcases (key i j hi hj hc).2 k hk with h | h
    · exact absurd h hne
    · exact h.2 ok ho hd

/-- What is asked of operation number j. -/
def FKindOp (P : Program) (ops : Array Oper) (n : Nat) (B : Nat) (w0 : World) (κ : Nat → FKind) (cons : Nat → Nat → Bool) (A : (Nat → Value) → Act) (j : Nat) (o : Oper) : Prop :=
  ∀ (u : Nat → Value) (w : World), Below B w0 w → B ≤ w.heap.size → (∀ i, i < n → depB ops o i = true → (κ i).φ w (u i)) →
    if Region.wanted o (yielded ops (A u).tmps) then fkindAt P o (A u) w B (fun b => ∃ i, i < n ∧ cons j i = true ∧ (κ i).fp (u i) b) (κ j) else (κ j).φ w undef ∧ ∀ b, ¬ (κ j).fp undef b

theorem fkinds_any {n : Nat} {κ : Nat → FKind} {cons : Nat → Nat → Bool} {a0 : Act} {B : Nat} {w0 : World} {Q : Exit → Act → World → Prop} (hF : KindFacts md ops n) (hCo : ConsFacts md ops n cons) (hT : tailB md ops n = true)
    (hst : ∀ i, i < n → (κ i).Stable B)
    (hops : ∀ j o, j < n → ops[j]? = some o → FKindOp P ops n B w0 κ cons (fun u => lexFrame ops a0 u j) j o)
    (hend : ∀ (u : Nat → Value) (w : World), Below B w0 w → (∀ i, i < n → (∀ j, j < n → cons j i = false) → (κ i).φ w (u i)) → wpAny P md ops Q (ops.size - n) (headL ops n) (lexFrame ops a0 u n) w) :
    ∀ (m : Nat) (L : Array Bool) (u : Nat → Value) (a : Act) (w : World), unl L n = m → HeadInv md ops n L → FrameAt ops a0 u (fun i => i < n ∧ L.getD i false = true) a →
      Below B w0 w → B ≤ w.heap.size →
      (∀ i, i < n → L.getD i false = true → (∀ j, j < n → L.getD j false = true → cons j i = false) → (κ i).φ w (u i) ∧ ∀ b, (κ i).fp (u i) b → B ≤ b ∧ b < w.heap.size) →
      (∀ i k, i < n → k < n → i ≠ k → L.getD i false = true → L.getD k false = true → (∀ j, j < n → L.getD j false = true → cons j i = false) → (∀ j, j < n → L.getD j false = true → cons j k = false) → ∀ b, (κ i).fp (u i) b → ¬ (κ k).fp (u k) b) →
      wpAny P md ops Q (m + (ops.size - n)) L a w := by
  simp only [tailB, Bool.and_eq_true, Bool.or_eq_true, beq_iff_eq] at hT
  obtain ⟨hT1, hT2⟩ := hT
  intro m
  induction m with
  | zero =>
    intro L u a w hm inv hf hw hBw hφ hdis
    have hall := unl_zero L n hm
    have hle := hF.le
    have hL : L = headL ops n := by
      apply Array.ext
      · rw [inv.size]; simp [headL]
      · intro i h1 h2
        by_cases hin : i < n
        · have := hall i hin
          simp [h1] at this
          simp [headL, hin, this]
        · have := inv.tail i (by omega) (by rw [← inv.size]; exact h1)
          simp [h1] at this
          simp [headL, hin, this]
    have ht : ∀ i, i < n → L.getD i false = true := fun i hi => by
      have h1 := hall i hi
      have : i < L.size := by rw [inv.size]; omega
      simp [this] at h1 ⊢
      exact h1
    have ha : a = lexFrame ops a0 u n := hf.eq (lexFrame_at hF a0 u n (Nat.le_refl _)) fun i => ⟨fun h => h.1, fun h => ⟨h, ht i h⟩⟩
    rw [Nat.zero_add, ha, hL]
    exact hend u w hw fun i hi hc => (hφ i hi (ht i hi) fun j hj _ => hc j hj).1
  | succ m ih =>
    intro L u a w hm inv hf hw hBw hφ hdis
    have hle := hF.le
    obtain ⟨i0, hi0, hu0, hlow⟩ : ∃ i, i < n ∧ L.getD i true = false ∧ ∀ k, k < i → L.getD k true = true := by
      rcases listed_count n L n (Nat.le_refl _) with h | h
      · exfalso
        have : ∀ k, k ≤ n → unl L k = 0 := by
          intro k
          induction k with
          | zero => intro _; rfl
          | succ k ihk => intro hk; rw [unl, ihk (by omega), h k (by omega)]; rfl
        rw [this n (Nat.le_refl _)] at hm
        omega
      · exact h
    have hready : i0 ∈ Region.ready md ops L := by
      have ho : ops[i0]? = some ops[i0] := Array.getElem?_eq_getElem (by omega)
      refine mem_ready.2 ⟨hu0, _, ho, fun e he hb => ?_⟩
      have h1 := hF.edge i0 _ hi0 ho e he hb
      have h2 := hlow e.on h1
      have : e.on < L.size := by rw [inv.size]; omega
      simp [this] at h2 ⊢
      exact h2
    rw [show m + 1 + (ops.size - n) = (m + (ops.size - n)) + 1 by omega]
    refine ⟨fun h0 => (by rw [h0] at hready; cases hready), fun j hj => ?_⟩
    have hjn : j < n := by
      obtain ⟨_, oj, hoj, _⟩ := mem_ready.1 hj
      have hjs := (Array.getElem?_eq_some_iff.1 hoj).1
      rcases hT1 with h | h
      · omega
      · rcases Nat.lt_or_ge j n with h' | h'
        · exact h'
        · exact absurd hj (tail_waits h.1 h.2 (by omega) inv _ i0 rfl hi0 hu0 j h')
    obtain ⟨hjun, oj, hoj, hall⟩ := mem_ready.1 hj
    have hj0 : ¬ L.getD j false = true := by rw [getD_both hjun]; simp
    have hwait : ∀ i, Region.waitsFor md ops j i = true → L.getD i false = true := fun i hi => by
      obtain ⟨o', ho', e, he, hb, hon⟩ := Region.waitsFor_spec hi
      have : o' = oj := Option.some.inj (ho'.symm.trans hoj)
      subst this
      rw [← hon]
      exact hall e he hb
    have hclosed : ∀ k i, L.getD k false = true → Region.waitsFor md ops k i = true → L.getD i false = true := fun k i hk hi => by
      obtain ⟨o', ho', e, he, hb, hon⟩ := Region.waitsFor_spec hi
      rw [← hon]
      exact inv.closed k o' ho' hk e he hb
    have hlex := lexFrame_at hF a0 u j (by omega)
    have hsame : ∀ d, d ∈ oj.looksAt ops → a.tmps[d]? = (lexFrame ops a0 u j).tmps[d]? := fun d hd => by
      by_cases hx : ∃ i, i < n ∧ dstOf ops i = some d
      · obtain ⟨i, hi, hid⟩ := hx
        have h1 := hF.look i j hi hjn d oj hid hoj hd
        have h2 := hwait i h1.2
        rw [hf.new i d ⟨hi, h2⟩ hid, hlex.new i d h1.1 hid]
      · rw [hf.old d fun i hi hid => hx ⟨i, hi.1, hid⟩, hlex.old d fun i hi hid => hx ⟨i, by omega, hid⟩]
    have hsel := Region.noSelect_spec hF.sel j
    have hex : execOp a.eval oj = execOp (lexFrame ops a0 u j).eval oj := exec_congr (ops := ops) (fun cs b => hsel oj cs b hoj) hsame
    have hwa : Region.wanted oj (yielded ops a.tmps) = Region.wanted oj (yielded ops (lexFrame ops a0 u j).tmps) := wanted_congr hsame
    have hlive : ∀ i, i < n → depB ops oj i = true → ∀ k, k < n → L.getD k false = true → cons k i = false := fun i hi hd k hk hLk => by
      cases hc : cons k i with
      | false => rfl
      | true =>
        exfalso
        by_cases e : j = k
        · subst e; exact hj0 hLk
        · exact hj0 (hclosed k j hLk (hCo.look i k j oj hi hk hjn hc e hoj hd))
    have hop := hops j oj hjn hoj u w hw hBw fun i hi hd => by
      have hdep : ∃ d, dstOf ops i = some d ∧ d ∈ oj.looksAt ops := by
        have hd' := hd
        unfold depB at hd'
        split at hd'
        · rename_i d hd''
          exact ⟨d, hd'', by simpa using hd'⟩
        · cases hd'
      obtain ⟨d, hd1, hd2⟩ := hdep
      exact (hφ i hi (hwait i (hF.look i j hi hjn d oj hd1 hoj hd2).2) (hlive i hi hd)).1
    have hcl : ∀ i, i < n → cons j i = true → L.getD i false = true ∧ ∀ k, k < n → L.getD k false = true → cons k i = false := fun i hi hc => by
      refine ⟨hwait i (hCo.wait i j hi hjn hc), fun k hk hLk => ?_⟩
      cases hck : cons k i with
      | false => rfl
      | true => have := hCo.one i j k hi hjn hk hc hck; subst this; exact absurd hLk hj0
    have hnext : ∀ v w', FOut B (fun b => ∃ i, i < n ∧ cons j i = true ∧ (κ i).fp (u i) b) (κ j) w w' v → wpAny P md ops Q (m + (ops.size - n)) (L.setIfInBounds j true) (a.put oj.dst v) w' := fun v w' hv => by
      obtain ⟨hfr, hvφ, hvf⟩ := hv
      have hu' := unl_set L j hjun n
      have hCB : ∀ b, (∃ i, i < n ∧ cons j i = true ∧ (κ i).fp (u i) b) → B ≤ b := fun b ⟨i, hi, hc, hf⟩ => by
        have h1 := hcl i hi hc
        exact ((hφ i hi h1.1 h1.2).2 b hf).1
      have hbel : Below B w w' := hfr.below hBw hCB
      have hLne : ∀ i, i ≠ j → (L.setIfInBounds j true).getD i false = L.getD i false := fun i hne => getD_set_ne false (Ne.symm hne)
      have hjs : j < L.size := by rw [inv.size]; omega
      have hLj : (L.setIfInBounds j true).getD j false = true := by simp [hjs]
      have hold : ∀ i, i < n → i ≠ j → (L.setIfInBounds j true).getD i false = true → (∀ k, k < n → (L.setIfInBounds j true).getD k false = true → cons k i = false) →
          L.getD i false = true ∧ (∀ k, k < n → L.getD k false = true → cons k i = false) ∧ cons j i = false := fun i hi hne hLi hc => by
        refine ⟨by rw [← hLne i hne]; exact hLi, fun k hk hLk => hc k hk ?_, hc j hjn hLj⟩
        by_cases e : k = j
        · subst e; exact hLj
        · rw [hLne k e]; exact hLk
      refine ih (L.setIfInBounds j true) (upd u j v) (a.put oj.dst v) w' (by have := hu'.1 hjn; omega) (inv.set hj hjn) ?_ (hw.trans hbel) (Nat.le_trans hBw hfr.size) (fun i hi hLi hc => ?_) (fun i k hi hk hik hLi hLk hci hck b hbi hbk => ?_)
      · have h1 : FrameAt ops a0 (upd u j v) (fun i => i < n ∧ L.getD i false = true) a := hf.congr fun i hi => by
          rw [upd_ne u v fun e => hj0 (by rw [← e]; exact hi.2)]
        have h2 := h1.put (T := fun i => i < n ∧ (L.setIfInBounds j true).getD i false = true) j (fun i hi d hd => fun e => hF.apart i j hi.1 hjn (fun e' => hj0 (by rw [← e']; exact hi.2)) d e hd) (fun i => by
          by_cases e : j = i
          · subst e
            simp [hjs, hjn]
          · rw [getD_set_ne false e]
            constructor
            · exact fun h => .inl h
            · rintro (h | h)
              · exact h
              · exact absurd h.symm e)
        rw [upd_same, dstOf_some hoj] at h2
        exact h2
      · by_cases e : i = j
        · subst e
          rw [upd_same]
          refine ⟨hvφ, fun b hb => ⟨?_, (hvf b hb).2⟩⟩
          rcases (hvf b hb).1 with h | h
          · omega
          · exact hCB b h
        · rw [upd_ne u v e]
          obtain ⟨h1, h2, h3⟩ := hold i hi e hLi hc
          have h4 := hφ i hi h1 h2
          refine ⟨hst i hi w w' _ hbel (fun b hb => ?_) h4.1, fun b hb => ⟨(h4.2 b hb).1, Nat.lt_of_lt_of_le (h4.2 b hb).2 hfr.size⟩⟩
          refine hfr.block b (h4.2 b hb).2 fun ⟨i', hi', hc', hf'⟩ => ?_
          have h5 := hcl i' hi' hc'
          exact hdis i i' hi hi' (fun e => by subst e; rw [h3] at hc'; cases hc') h1 h5.1 h2 h5.2 b hb hf'
      · by_cases ei : i = j
        · subst ei
          have ek : k ≠ i := Ne.symm hik
          rw [upd_same] at hbi
          rw [upd_ne u v ek] at hbk
          obtain ⟨h1, h2, h3⟩ := hold k hk ek hLk hck
          have h4 := hφ k hk h1 h2
          rcases (hvf b hbi).1 with h | ⟨i', hi', hc', hf'⟩
          · have := (h4.2 b hbk).2; omega
          · have h5 := hcl i' hi' hc'
            exact hdis i' k hi' hk (fun e => by subst e; rw [h3] at hc'; cases hc') h5.1 h1 h5.2 h2 b hf' hbk
        · by_cases ek : k = j
          · subst ek
            rw [upd_same] at hbk
            rw [upd_ne u v ei] at hbi
            obtain ⟨h1, h2, h3⟩ := hold i hi ei hLi hci
            have h4 := hφ i hi h1 h2
            rcases (hvf b hbk).1 with h | ⟨i', hi', hc', hf'⟩
            · have := (h4.2 b hbi).2; omega
            · have h5 := hcl i' hi' hc'
              exact hdis i' i hi' hi (fun e => by subst e; rw [h3] at hc'; cases hc') h5.1 h1 h5.2 h2 b hf' hbi
          · rw [upd_ne u v ei] at hbi
            rw [upd_ne u v ek] at hbk
            obtain ⟨h1, h2, _⟩ := hold i hi ei hLi hci
            obtain ⟨h3, h4, _⟩ := hold k hk ek hLk hck
            exact hdis i k hi hk hik h1 h3 h2 h4 b hbi hbk
    show wpOp P ops Q j _ a w
    unfold wpOp
    rw [hoj]
    simp only
    rw [hwa]
    split
    · rename_i hwt
      rw [if_pos hwt] at hop
      left
      refine wp_of_fkindAt (κ := κ j) ?_ fun v w' h1 => hnext v w' h1
      unfold fkindAt at hop ⊢
      rw [hex]
      exact hop
    · rename_i hwt
      rw [if_neg hwt] at hop
      exact hnext undef w ⟨Fr.of_ext (Ext.refl w), hop.1, fun b hb => absurd hb (hop.2 b)⟩
/-- The asks of all operations of the head, one below another. -/
def FKindOps (P : Program) (ops : Array Oper) (n : Nat) (B : Nat) (w0 : World) (κ : Nat → FKind) (cons : Nat → Nat → Bool) : Nat → List Oper → ((Nat → Value) → Act) → Prop
  | _, [], _ => True
  | j, o :: rest, A => FKindOp P ops n B w0 κ cons A j o ∧ FKindOps P ops n B w0 κ cons (j + 1) rest fun u => (A u).put o.dst (u j)
theorem fkindOps_at {n B : Nat} {w0 : World} {κ : Nat → FKind} {cons : Nat → Nat → Bool} {a0 : Act} : ∀ (l : List Oper) (k : Nat), (∀ j, j < l.length → l[j]? = ops[k + j]?) → FKindOps P ops n B w0 κ cons k l (fun u => lexFrame ops a0 u k) →
    ∀ j o, j < l.length → ops[k + j]? = some o → FKindOp P ops n B w0 κ cons (fun u => lexFrame ops a0 u (k + j)) (k + j) o
  | [], _, _, _, j, o, hj, _ => by simp at hj
  | x :: r, k, hl, h, j, o, hj, ho => by
    have h0 : ops[k]? = some x := by simpa using (hl 0 (by simp)).symm
    cases j with
    | zero =>
      have : x = o := Option.some.inj (h0.symm.trans ho)
      subst this
      exact h.1
    | succ j =>
      have := fkindOps_at (n := n) (B := B) (w0 := w0) (κ := κ) (cons := cons) (a0 := a0) r (k + 1) (fun i hi => by have := hl (i + 1) (by simp; omega); simpa [Nat.add_assoc, Nat.add_comm 1 i] using this)
        (by have h2 := h.2; simp only [lexFrame, dstOf_some h0]; exact h2) j o (by simp at hj; omega) (by rw [← ho]; congr 1; omega)
      rw [show k + (j + 1) = k + 1 + j by omega]
      exact this

theorem wp_region_fkinds {id : Nat} {Q : Exit → Act → World → Prop} {a : Act} {w : World} {l : List Oper} (n B : Nat) (κ : Nat → FKind) (cons : Nat → Nat → Bool) (hm : P.follows .mixedOrders = true)
    (hB : kindB .any l.toArray n = true) (hT : tailB .any l.toArray n = true) (hC : consB .any l.toArray n cons = true) (hBw : B ≤ w.heap.size) (hst : ∀ i, i < n → (κ i).Stable B)
    (hops : FKindOps P l.toArray n B w.drew κ cons 0 (l.take n) (fun _ => a))
    (hend : ∀ (u : Nat → Value) (w' : World), Below B w.drew w' → (∀ i, i < n → (∀ j, j < n → cons j i = false) → (κ i).φ w' (u i)) → wpList P l.toArray Q (l.drop n) (lexFrame l.toArray a u n) w') :
    (Code.region id l.toArray true).wp P Q a w := by
  have hF := kindB_facts hB
  have hle : n ≤ l.length := by have := hF.le; simpa using this
  refine wp_region_any hm ?_
  have h0 : unl (Array.replicate l.toArray.size false) n = n := unl_new _ n hF.le
  have h1 := fkinds_any (P := P) (md := .any) (Q := Q) (a0 := a) (B := B) (w0 := w.drew) (κ := κ) (cons := cons) hF (consB_facts hC) hT hst (fun j o hj ho => by
      have := fkindOps_at (P := P) (ops := l.toArray) (n := n) (B := B) (w0 := w.drew) (κ := κ) (cons := cons) (a0 := a) (l.take n) 0 (fun i hi => by
        have : i < n := by rw [List.length_take] at hi; omega
        simp [List.getElem?_take_of_lt this]) hops j o (by rw [List.length_take]; omega) (by rw [Nat.zero_add]; exact ho)
      rw [Nat.zero_add] at this
      exact this)
    (fun u w' hw hφ => by
      have hT' := hT
      simp only [tailB, Bool.and_eq_true] at hT'
      have := wpAny_of_seq (P := P) (md := .any) (ops := l.toArray) (Q' := Q) (l.drop n) n (headL l.toArray n) (lexFrame l.toArray a u n) w' (fun j => by simp [List.getElem?_drop]) (by rw [List.length_drop]; exact hT'.2) (hend u w' hw hφ)
      rw [List.length_drop] at this
      exact this)
    n (Array.replicate l.toArray.size false) (fun _ => undef) a w.drew h0
    ⟨by simp, (fun j oj _ hl => by rw [getD_replicate_false] at hl; cases hl), (fun t ht htl => by simp at htl; simp [htl])⟩
    (FrameAt.nil (fun i hi => by rw [getD_replicate_false] at hi; exact absurd hi.2 (by decide))) (Below.refl _ _) hBw (fun i _ hi => by rw [getD_replicate_false] at hi; cases hi) (fun i k _ _ _ hi => by rw [getD_replicate_false] at hi; cases hi)
  have e : n + (l.toArray.size - n) = l.toArray.size := by have := hF.le; omega
  rw [e] at h1
  exact h1
def lexPut (u : Nat → Value) : Nat → List Oper → Act → Act
  | _, [], a => a
  | k, o :: r, a => lexPut u (k + 1) r (a.put o.dst (u k))
theorem lexPut_frame (a0 : Act) (u : Nat → Value) : ∀ (l : List Oper) (k : Nat), (∀ j, j < l.length → l[j]? = ops[k + j]?) → lexFrame ops a0 u (k + l.length) = lexPut u k l (lexFrame ops a0 u k)
  | [], k, _ => rfl
  | o :: r, k, hl => by
    have h0 : ops[k]? = some o := by simpa using (hl 0 (by simp)).symm
    have := lexPut_frame a0 u r (k + 1) (fun i hi => by have := hl (i + 1) (by simp; omega); simpa [Nat.add_assoc, Nat.add_comm 1 i] using this)
    rw [List.length_cons, lexPut, ← dstOf_some h0]
    rw [show k + (r.length + 1) = k + 1 + r.length by omega, this]
    rfl
/-- The whole region is the head. -/
theorem wp_region_all {id : Nat} {Q : Exit → Act → World → Prop} {a : Act} {w : World} {l : List Oper} (B : Nat) (κ : Nat → FKind) (cons : Nat → Nat → Bool) (hm : P.follows .mixedOrders = true)
    (hB : kindB .any l.toArray l.length = true) (hT : tailB .any l.toArray l.length = true) (hC : consB .any l.toArray l.length cons = true) (hBw : B ≤ w.heap.size) (hst : ∀ i, i < l.length → (κ i).Stable B)
    (hops : FKindOps P l.toArray l.length B w.drew κ cons 0 l (fun _ => a))
    (hend : ∀ (u : Nat → Value) (w' : World), Below B w.drew w' → (∀ i, i < l.length → (∀ j, j < l.length → cons j i = false) → (κ i).φ w' (u i)) → Q .normal (lexPut u 0 l a) w') :
    (Code.region id l.toArray true).wp P Q a w :=
  wp_region_fkinds l.length B κ cons hm hB hT hC hBw hst (by rw [List.take_length]; exact hops) (fun u w' h1 h2 => by
    rw [List.drop_length]
    have := lexPut_frame (ops := l.toArray) a u l 0 (fun j hj => by simp)
    rw [Nat.zero_add] at this
    rw [this]
    exact hend u w' h1 h2)
theorem fk_run {o : Oper} {a : Act} {w : World} {B : Nat} {C : Nat → Prop} {c : Value} (h : (execOp a.eval o).run P w = .ok (.value c) w) : fkindAt P o a w B C (valF c) := by
  unfold fkindAt
  rw [h]
  exact (FOut.val (B := B) (C := C) (w := w) (c := c) (v := c) rfl : FOut B C (valF c) w w c)
theorem fk_pos {c : Bool} {A D : Prop} (h : c = true) (ha : A) : if c = true then A else D := by rw [if_pos h]; exact ha
theorem fk_neg {c : Bool} {A : Prop} {w : World} (h : c = false) : if c = true then A else (valF undef).φ w undef ∧ ∀ b, ¬ (valF undef).fp undef b := by
  rw [if_neg (by rw [h]; decide)]
  exact ⟨rfl, fun _ hf => hf⟩
end
end Go.Proofs.YtlchpdjpnabeiaaDoor
