import Derived.Test.YtpogffdbencfnaaGreatDoorKn
set_option linter.unusedVariables false
namespace Go.Proofs.YtpogffdbencfnaaGreatDoor
open Go Go.RowKit

section
variable {P : Program} {ops : Array Oper} {md : Region.Mode}
/-- What is asked of operation number j. -/
def SKindOp (md : Region.Mode) (P : Program) (ops : Array Oper) (n : Nat) (B : Nat) (w0 : World) (κ : Nat → (Nat → Value) → FKind) (cons : Nat → Nat → Bool) (Res : Nat → Nat → Prop) (A : (Nat → Value) → Act) (j : Nat) (o : Oper) : Prop :=
  ∀ (u : Nat → Value) (w : World), Below B w0 w → B ≤ w.heap.size → (∀ i, i < n → depB ops o i = true → (κ i u).φ w (u i)) → (∀ k b, k < n → (k = j ∨ Region.waitsFor md ops k j = true) → Res k b → w.heap[b]? = w0.heap[b]?) → (∀ b, b < w0.heap.size → (∀ j, j < n → ¬ Res j b) → w.heap[b]? = w0.heap[b]?) →
    if Region.wanted o (yielded ops (A u).tmps) then fkindAt P o (A u) w B (fun b => (∃ i, i < n ∧ cons j i = true ∧ (κ i u).fp (u i) b) ∨ Res j b) (κ j u) else (κ j u).φ w undef ∧ ∀ b, ¬ (κ j u).fp undef b

theorem skinds_any {n : Nat} {κ : Nat → (Nat → Value) → FKind} {cons : Nat → Nat → Bool} {Res : Nat → Nat → Prop} {a0 : Act} {B : Nat} {w0 : World} {Q : Exit → Act → World → Prop} (hR : ResFacts n B w0 Res) (hF : KindFacts md ops n) (hCo : ConsFacts md ops n cons) (hT : tailB md ops n = true)
    (hst : ∀ i u, i < n → KStable B cons Res (κ i u)) (hcg : ∀ i u u2, i < n → (∀ k, k < n → depOn ops i k = true → u k = u2 k) → κ i u = κ i u2)
    (hops : ∀ j o, j < n → ops[j]? = some o → SKindOp md P ops n B w0 κ cons Res (fun u => lexFrame ops a0 u j) j o)
    (hend : ∀ (u : Nat → Value) (w : World), Below B w0 w → (∀ b, b < w0.heap.size → (∀ j, j < n → ¬ Res j b) → w.heap[b]? = w0.heap[b]?) → (∀ i, i < n → (∀ j, j < n → cons j i = false) → (κ i u).φ w (u i)) → wpAny P md ops Q (ops.size - n) (headL ops n) (lexFrame ops a0 u n) w) :
    ∀ (m : Nat) (L : Array Bool) (u : Nat → Value) (a : Act) (w : World), unl L n = m → HeadInv md ops n L → FrameAt ops a0 u (fun i => i < n ∧ L.getD i false = true) a →
      Below B w0 w → B ≤ w.heap.size →
      (∀ i, i < n → L.getD i false = true → (∀ j, j < n → L.getD j false = true → cons j i = false) → (κ i u).φ w (u i) ∧ ∀ b, (κ i u).fp (u i) b → B ≤ b ∧ b < w.heap.size) →
      (∀ i k, i < n → k < n → i ≠ k → L.getD i false = true → L.getD k false = true → (∀ j, j < n → L.getD j false = true → cons j i = false) → (∀ j, j < n → L.getD j false = true → cons j k = false) → ∀ b, (κ i u).fp (u i) b → ¬ (κ k u).fp (u k) b) →
      (∀ j b, j < n → L.getD j false = false → Res j b → w.heap[b]? = w0.heap[b]?) →
      (∀ i j, i < n → j < n → L.getD i false = true → L.getD j false = false → (∀ k, k < n → L.getD k false = true → cons k i = false) → ∀ b, (κ i u).fp (u i) b → ¬ Res j b) →
      (∀ i, i < n → L.getD i false = true → (∀ k, k < n → L.getD k false = true → cons k i = false) → ∀ b, (κ i u).fp (u i) b → b < w0.heap.size → ∃ j, j < n ∧ Res j b) →
      (∀ b, b < w0.heap.size → (∀ j, j < n → ¬ Res j b) → w.heap[b]? = w0.heap[b]?) →
      wpAny P md ops Q (m + (ops.size - n)) L a w := by
  simp only [tailB, Bool.and_eq_true, Bool.or_eq_true, beq_iff_eq] at hT
  obtain ⟨hT1, hT2⟩ := hT
  intro m
  induction m with
  | zero =>
    intro L u a w hm inv hf hw hBw hφ hdis hru hrd hro hkp
    have hall := unl_zero L n hm
    have hle := hF.le
    have hL : L = headL ops n := by
      apply Array.ext
      · rw [inv.size]; simp [headL]
      · intro i h1 h2
        by_cases hin : i < n
        · have := hall i hin
          simp [h1] at this
          simp [headL, hin, this]
        · have := inv.tail i (by omega) (by rw [← inv.size]; exact h1)
          simp [h1] at this
          simp [headL, hin, this]
    have ht : ∀ i, i < n → L.getD i false = true := fun i hi => by
      have h1 := hall i hi
      have : i < L.size := by rw [inv.size]; omega
      simp [this] at h1 ⊢
      exact h1
    have ha : a = lexFrame ops a0 u n := hf.eq (lexFrame_at hF a0 u n (Nat.le_refl _)) fun i => ⟨fun h => h.1, fun h => ⟨h, ht i h⟩⟩
    rw [Nat.zero_add, ha, hL]
    exact hend u w hw hkp fun i hi hc => (hφ i hi (ht i hi) fun j hj _ => hc j hj).1
  | succ m ih =>
    intro L u a w hm inv hf hw hBw hφ hdis hru hrd hro hkp
    have hle := hF.le
    obtain ⟨i0, hi0, hu0, hlow⟩ : ∃ i, i < n ∧ L.getD i true = false ∧ ∀ k, k < i → L.getD k true = true := by
      rcases listed_count n L n (Nat.le_refl _) with h | h
      · exfalso
        have : ∀ k, k ≤ n → unl L k = 0 := by
          intro k
          induction k with
          | zero => intro _; rfl
          | succ k ihk => intro hk; rw [unl, ihk (by omega), h k (by omega)]; rfl
        rw [this n (Nat.le_refl _)] at hm
        omega
      · exact h
    have hready : i0 ∈ Region.ready md ops L := by
      have ho : ops[i0]? = some ops[i0] := Array.getElem?_eq_getElem (by omega)
      refine mem_ready.2 ⟨hu0, _, ho, fun e he hb => ?_⟩
      have h1 := hF.edge i0 _ hi0 ho e he hb
      have h2 := hlow e.on h1
      have : e.on < L.size := by rw [inv.size]; omega
      simp [this] at h2 ⊢
      exact h2
    rw [show m + 1 + (ops.size - n) = (m + (ops.size - n)) + 1 by omega]
    refine ⟨fun h0 => (by rw [h0] at hready; cases hready), fun j hj => ?_⟩
    have hjn : j < n := by
      obtain ⟨_, oj, hoj, _⟩ := mem_ready.1 hj
      have hjs := (Array.getElem?_eq_some_iff.1 hoj).1
      rcases hT1 with h | h
      · omega
      · rcases Nat.lt_or_ge j n with h' | h'
        · exact h'
        · exact absurd hj (tail_waits h.1 h.2 (by omega) inv _ i0 rfl hi0 hu0 j h')
    obtain ⟨hjun, oj, hoj, hall⟩ := mem_ready.1 hj
    have hj0 : ¬ L.getD j false = true := by rw [getD_both hjun]; simp
    have hwait : ∀ i, Region.waitsFor md ops j i = true → L.getD i false = true := fun i hi => by
      obtain ⟨o', ho', e, he, hb, hon⟩ := Region.waitsFor_spec hi
      have : o' = oj := Option.some.inj (ho'.symm.trans hoj)
      subst this
      rw [← hon]
      exact hall e he hb
    have hclosed : ∀ k i, L.getD k false = true → Region.waitsFor md ops k i = true → L.getD i false = true := fun k i hk hi => by
      obtain ⟨o', ho', e, he, hb, hon⟩ := Region.waitsFor_spec hi
      rw [← hon]
      exact inv.closed k o' ho' hk e he hb
    have hlex := lexFrame_at hF a0 u j (by omega)
    have hsame : ∀ d, d ∈ oj.looksAt ops → a.tmps[d]? = (lexFrame ops a0 u j).tmps[d]? := fun d hd => by
      by_cases hx : ∃ i, i < n ∧ dstOf ops i = some d
      · obtain ⟨i, hi, hid⟩ := hx
        have h1 := hF.look i j hi hjn d oj hid hoj hd
        have h2 := hwait i h1.2
        rw [hf.new i d ⟨hi, h2⟩ hid, hlex.new i d h1.1 hid]
      · rw [hf.old d fun i hi hid => hx ⟨i, hi.1, hid⟩, hlex.old d fun i hi hid => hx ⟨i, by omega, hid⟩]
    have hsel := Region.noSelect_spec hF.sel j
    have hex : execOp a.eval oj = execOp (lexFrame ops a0 u j).eval oj := exec_congr (ops := ops) (fun cs b => hsel oj cs b hoj) hsame
    have hwa : Region.wanted oj (yielded ops a.tmps) = Region.wanted oj (yielded ops (lexFrame ops a0 u j).tmps) := wanted_congr hsame
    have hlive : ∀ i, i < n → depB ops oj i = true → ∀ k, k < n → L.getD k false = true → cons k i = false := fun i hi hd k hk hLk => by
      cases hc : cons k i with
      | false => rfl
      | true =>
        exfalso
        by_cases e : j = k
        · subst e; exact hj0 hLk
        · exact hj0 (hclosed k j hLk (hCo.look i k j oj hi hk hjn hc e hoj hd))
    have hop := hops j oj hjn hoj u w hw hBw fun i hi hd => by
      have hdep : ∃ d, dstOf ops i = some d ∧ d ∈ oj.looksAt ops := by
        have hd' := hd
        unfold depB at hd'
        split at hd'
        · rename_i d hd''
          exact ⟨d, hd'', by simpa using hd'⟩
        · cases hd'
      obtain ⟨d, hd1, hd2⟩ := hdep
      exact (hφ i hi (hwait i (hF.look i j hi hjn d oj hd1 hoj hd2).2) (hlive i hi hd)).1
    have hop := hop (fun k b hk hor hb => hru k b hk (by
      rcases hor with rfl | h
      · exact getD_both hjun
      · cases hLk : L.getD k false with
        | false => rfl
        | true => exact absurd (hclosed k j hLk h) hj0) hb) hkp
    have hcl : ∀ i, i < n → cons j i = true → L.getD i false = true ∧ ∀ k, k < n → L.getD k false = true → cons k i = false := fun i hi hc => by
      refine ⟨hwait i (hCo.wait i j hi hjn hc), fun k hk hLk => ?_⟩
      cases hck : cons k i with
      | false => rfl
      | true => have := hCo.one i j k hi hjn hk hc hck; subst this; exact absurd hLk hj0
    have hnext : ∀ v w', FOut B (fun b => (∃ i, i < n ∧ cons j i = true ∧ (κ i u).fp (u i) b) ∨ Res j b) (κ j u) w w' v → wpAny P md ops Q (m + (ops.size - n)) (L.setIfInBounds j true) (a.put oj.dst v) w' := fun v w' hv => by
      obtain ⟨hfr, hvφ, hvf⟩ := hv
      have hu' := unl_set L j hjun n
      have hjf : L.getD j false = false := getD_both hjun
      have hCB : ∀ b, ((∃ i, i < n ∧ cons j i = true ∧ (κ i u).fp (u i) b) ∨ Res j b) → B ≤ b := fun b h => by
        rcases h with ⟨i, hi, hc, hf⟩ | h
        · have h1 := hcl i hi hc
          exact ((hφ i hi h1.1 h1.2).2 b hf).1
        · exact (hR.old j b hjn h).1
      have hbel : Below B w w' := hfr.below hBw hCB
      have hLne : ∀ i, i ≠ j → (L.setIfInBounds j true).getD i false = L.getD i false := fun i hne => getD_set_ne false (Ne.symm hne)
      have hjs : j < L.size := by rw [inv.size]; omega
      have hLj : (L.setIfInBounds j true).getD j false = true := by simp [hjs]
      have hold : ∀ i, i < n → i ≠ j → (L.setIfInBounds j true).getD i false = true → (∀ k, k < n → (L.setIfInBounds j true).getD k false = true → cons k i = false) →
          L.getD i false = true ∧ (∀ k, k < n → L.getD k false = true → cons k i = false) ∧ cons j i = false := fun i hi hne hLi hc => by
        refine ⟨by rw [← hLne i hne]; exact hLi, fun k hk hLk => hc k hk ?_, hc j hjn hLj⟩
        by_cases e : k = j
        · subst e; exact hLj
        · rw [hLne k e]; exact hLk
      have hup : ∀ i, i < n → (L.setIfInBounds j true).getD i false = true → κ i (upd u j v) = κ i u := fun i hi hLi => by
        refine hcg i _ _ hi fun k hk hd => ?_
        refine upd_ne u v fun e => ?_
        subst e
        unfold depOn at hd
        cases ho : ops[i]? with
        | none => rw [ho] at hd; cases hd
        | some oi =>
          rw [ho] at hd
          have hdep : ∃ d, dstOf ops k = some d ∧ d ∈ oi.looksAt ops := by
            have hd' : depB ops oi k = true := hd
            unfold depB at hd'
            split at hd'
            · rename_i d hd''
              exact ⟨d, hd'', by simpa using hd'⟩
            · cases hd'
          obtain ⟨d, hd1, hd2⟩ := hdep
          have hwt := (hF.look k i hk hi d oi hd1 ho hd2).2
          by_cases e : i = k
          · subst e
            exact hj0 (hwait i hwt)
          · rw [hLne i e] at hLi
            exact hj0 (hclosed i k hLi hwt)
      refine ih (L.setIfInBounds j true) (upd u j v) (a.put oj.dst v) w' (by have := hu'.1 hjn; omega) (inv.set hj hjn) ?_ (hw.trans hbel) (Nat.le_trans hBw hfr.size) (fun i hi hLi hc => ?_) (fun i k hi hk hik hLi hLk hci hck b hbi hbk => ?_) (fun k b hk hLk hb => ?_) (fun i k hi hk hLi hLk hci b hbi hbk => ?_) (fun i hi hLi hci b hbi hlt => ?_) (fun b hlt hno => ?_)
      · have h1 : FrameAt ops a0 (upd u j v) (fun i => i < n ∧ L.getD i false = true) a := hf.congr fun i hi => by
          rw [upd_ne u v fun e => hj0 (by rw [← e]; exact hi.2)]
        have h2 := h1.put (T := fun i => i < n ∧ (L.setIfInBounds j true).getD i false = true) j (fun i hi d hd => fun e => hF.apart i j hi.1 hjn (fun e' => hj0 (by rw [← e']; exact hi.2)) d e hd) (fun i => by
          by_cases e : j = i
          · subst e
            simp [hjs, hjn]
          · rw [getD_set_ne false e]
            constructor
            · exact fun h => .inl h
            · rintro (h | h)
              · exact h
              · exact absurd h.symm e)
        rw [upd_same, dstOf_some hoj] at h2
        exact h2
      · rw [hup i hi hLi]
        by_cases e : i = j
        · subst e
          rw [upd_same]
          refine ⟨hvφ, fun b hb => ⟨?_, (hvf b hb).2⟩⟩
          rcases (hvf b hb).1 with h | h
          · omega
          · exact hCB b h
        · rw [upd_ne u v e]
          obtain ⟨h1, h2, h3⟩ := hold i hi e hLi hc
          have h4 := hφ i hi h1 h2
          refine ⟨?_, fun b hb => ⟨(h4.2 b hb).1, Nat.lt_of_lt_of_le (h4.2 b hb).2 hfr.size⟩⟩
          rcases hst i u hi with hst | ⟨hst, hidle⟩
          rotate_left
          · exact hst w w' _ ⟨hfr.os, hfr.tape, hfr.output, hfr.size, fun b hb => hfr.block b hb fun hC => hC.elim (fun ⟨i', _, hc', _⟩ => by rw [hidle.1] at hc'; cases hc') (hidle.2 j b)⟩ h4.1
          refine hst w w' _ hbel (fun b hb => ?_) h4.1
          refine hfr.block b (h4.2 b hb).2 fun hC => ?_
          rcases hC with ⟨i', hi', hc', hf'⟩ | hC
          rotate_left
          · exact hrd i j hi hjn h1 hjf h2 b hb hC
          have h5 := hcl i' hi' hc'
          exact hdis i i' hi hi' (fun e => by subst e; rw [h3] at hc'; cases hc') h1 h5.1 h2 h5.2 b hb hf'
      · rw [hup i hi hLi] at hbi
        rw [hup k hk hLk] at hbk
        by_cases ei : i = j
        · subst ei
          have ek : k ≠ i := Ne.symm hik
          rw [upd_same] at hbi
          rw [upd_ne u v ek] at hbk
          obtain ⟨h1, h2, h3⟩ := hold k hk ek hLk hck
          have h4 := hφ k hk h1 h2
          rcases (hvf b hbi).1 with h | ⟨i', hi', hc', hf'⟩ | h
          · have := (h4.2 b hbk).2; omega
          rotate_left
          · exact hrd k i hk hjn h1 hjf h2 b hbk h
          · have h5 := hcl i' hi' hc'
            exact hdis i' k hi' hk (fun e => by subst e; rw [h3] at hc'; cases hc') h5.1 h1 h5.2 h2 b hf' hbk
        · by_cases ek : k = j
          · subst ek
            rw [upd_same] at hbk
            rw [upd_ne u v ei] at hbi
            obtain ⟨h1, h2, h3⟩ := hold i hi ei hLi hci
            have h4 := hφ i hi h1 h2
            rcases (hvf b hbk).1 with h | ⟨i', hi', hc', hf'⟩ | h
            · have := (h4.2 b hbi).2; omega
            rotate_left
            · exact hrd i k hi hjn h1 hjf h2 b hbi h
            · have h5 := hcl i' hi' hc'
              exact hdis i' i hi' hi (fun e => by subst e; rw [h3] at hc'; cases hc') h5.1 h1 h5.2 h2 b hf' hbi
          · rw [upd_ne u v ei] at hbi
            rw [upd_ne u v ek] at hbk
            obtain ⟨h1, h2, _⟩ := hold i hi ei hLi hci
            obtain ⟨h3, h4, _⟩ := hold k hk ek hLk hck
            exact hdis i k hi hk hik h1 h3 h2 h4 b hbi hbk
      · have hkj : k ≠ j := fun e => by subst e; rw [hLj] at hLk; cases hLk
        rw [hLne k hkj] at hLk
        have h1 := hru k b hk hLk hb
        have h2 := hR.old k b hk hb
        refine (hfr.block b (Nat.lt_of_lt_of_le h2.2 hw.size) fun hC => ?_).trans h1
        rcases hC with ⟨i', hi', hc', hf'⟩ | hC
        · have h5 := hcl i' hi' hc'
          exact hrd i' k hi' hk h5.1 hLk h5.2 b hf' hb
        · exact hkj (hR.one k j b hk hjn hb hC)
      · have hkj : k ≠ j := fun e => by subst e; rw [hLj] at hLk; cases hLk
        rw [hLne k hkj] at hLk
        have h2 := hR.old k b hk hbk
        rw [hup i hi hLi] at hbi
        by_cases ei : i = j
        · subst ei
          rw [upd_same] at hbi
          rcases (hvf b hbi).1 with h | ⟨i', hi', hc', hf'⟩ | h
          · have := hw.size; omega
          · have h5 := hcl i' hi' hc'
            exact hrd i' k hi' hk h5.1 hLk h5.2 b hf' hbk
          · exact hkj (hR.one k i b hk hjn hbk h)
        · rw [upd_ne u v ei] at hbi
          obtain ⟨h1, h3, _⟩ := hold i hi ei hLi hci
          exact hrd i k hi hk h1 hLk h3 b hbi hbk
      · rw [hup i hi hLi] at hbi
        by_cases ei : i = j
        · subst ei
          rw [upd_same] at hbi
          rcases (hvf b hbi).1 with h | ⟨i', hi', hc', hf'⟩ | h
          · have := hw.size; omega
          · have h5 := hcl i' hi' hc'
            exact hro i' hi' h5.1 h5.2 b hf' hlt
          · exact ⟨i, hjn, h⟩
        · rw [upd_ne u v ei] at hbi
          obtain ⟨h1, h3, _⟩ := hold i hi ei hLi hci
          exact hro i hi h1 h3 b hbi hlt
      · refine (hfr.block b (Nat.lt_of_lt_of_le hlt hw.size) fun hC => ?_).trans (hkp b hlt hno)
        rcases hC with ⟨i', hi', hc', hf'⟩ | hC
        · have h5 := hcl i' hi' hc'
          obtain ⟨k, hk, hr⟩ := hro i' hi' h5.1 h5.2 b hf' hlt
          exact hno k hk hr
        · exact hno j hjn hC
    show wpOp P ops Q j _ a w
    unfold wpOp
    rw [hoj]
    simp only
    rw [hwa]
    split
    · rename_i hwt
      rw [if_pos hwt] at hop
      left
      refine wp_of_fkindAt (κ := κ j u) ?_ fun v w' h1 => hnext v w' h1
      unfold fkindAt at hop ⊢
      rw [hex]
      exact hop
    · rename_i hwt
      rw [if_neg hwt] at hop
      exact hnext undef w ⟨Fr.of_ext (Ext.refl w), hop.1, fun b hb => absurd hb (hop.2 b)⟩
def SKOp (md : Region.Mode) (P : Program) (ops : Array Oper) (n : Nat) (B : Nat) (w0 : World) (a0 : Act) (κ : Nat → (Nat → Value) → FKind) (cons : Nat → Nat → Bool) (Res : Nat → Nat → Prop) (j : Nat) (o : Oper) : Prop :=
  ∀ (u : Nat → Value) (w : World) (a : Act), Below B w0 w → B ≤ w.heap.size → (∀ i, i < n → depB ops o i = true → (κ i u).φ w (u i)) →
    (∀ t, (o.looksAt ops).contains t = true → a.eval (.tmp t) = slotV ops n a0 u t) → (∀ k b, k < n → (k = j ∨ Region.waitsFor md ops k j = true) → Res k b → w.heap[b]? = w0.heap[b]?) → (∀ b, b < w0.heap.size → (∀ j, j < n → ¬ Res j b) → w.heap[b]? = w0.heap[b]?) →
    Guarded o u (fkindAt P o a w B (fun b => (∃ i, i < n ∧ cons j i = true ∧ (κ i u).fp (u i) b) ∨ Res j b) (κ j u)) ((κ j u).φ w undef ∧ ∀ b, ¬ (κ j u).fp undef b)
theorem skindOp_of {n B : Nat} {w0 : World} {κ : Nat → (Nat → Value) → FKind} {cons : Nat → Nat → Bool} {Res : Nat → Nat → Prop} {a0 : Act} (hF : KindFacts md ops n) (hr : roomB ops n a0.tmps.size = true) {j : Nat} {o : Oper} (hj : j < n) (ho : ops[j]? = some o)
    (h : SKOp md P ops n B w0 a0 κ cons Res j o) : SKindOp md P ops n B w0 κ cons Res (fun u => lexFrame ops a0 u j) j o := by
  intro u w hw hB hd hrs hkq
  have hv : ∀ t, (o.looksAt ops).contains t = true → (lexFrame ops a0 u j).eval (.tmp t) = slotV ops n a0 u t := fun t ht => by
    have ht' : t ∈ o.looksAt ops := by simpa using ht
    obtain ⟨h1, h2⟩ := slotV_at hF hr u j hj o ho t ht'
    by_cases hx : ∃ i, i < n ∧ dstOf ops i = some t
    · rw [if_pos hx] at h1
      exact evalAt h1
    · rw [if_neg hx] at h1
      rw [h2 hx]
      simp only [Act.eval, Array.getD_eq_getD_getElem?, h1]
  have hg := h u w (lexFrame ops a0 u j) hw hB hd hv hrs hkq
  unfold Guarded at hg
  show if Region.wanted o (yielded ops (lexFrame ops a0 u j).tmps) then _ else _
  cases hgu : o.guard with
  | none =>
    rw [hgu] at hg
    have : Region.wanted o (yielded ops (lexFrame ops a0 u j).tmps) = true := by unfold Region.wanted; rw [hgu]
    rw [if_pos this]
    exact hg
  | some gw =>
    obtain ⟨g, want⟩ := gw
    rw [hgu] at hg
    simp only at hg
    have hrm := List.all_eq_true.1 hr j (List.mem_range.2 hj)
    simp only [ho, hgu, Bool.and_eq_true, decide_eq_true_eq] at hrm
    obtain ⟨_, hgn, hgd⟩ := hrm
    obtain ⟨d, hd'⟩ := Option.isSome_iff_exists.1 hgd
    have hdl : d ∈ o.looksAt ops := by
      unfold Oper.looksAt
      rw [hgu]
      exact List.mem_append_right _ (by have e : (ops[g]?).bind (·.dst) = some d := hd'; simp [e])
    have h1 := (slotV_at hF hr u j hj o ho d hdl).1
    rw [if_pos ⟨g, hgn, hd'⟩] at h1
    have hs : slotV ops n a0 u d = u g := by
      unfold slotV
      cases hfi : (List.range n).find? (fun i => dstOf ops i == some d) with
      | none =>
        have := List.find?_eq_none.1 hfi g (List.mem_range.2 hgn)
        simp [hd'] at this
      | some i' =>
        have h2 := List.find?_some hfi
        have h3 := List.mem_range.1 (List.mem_of_find?_eq_some hfi)
        have h4 : dstOf ops i' = some d := by simpa using h2
        by_cases e : i' = g
        · rw [e]
        · exact absurd hd' (hF.apart i' g h3 hgn e d h4)
    rw [hs] at h1
    have hy : ∀ b, u g = .bool b → yielded ops (lexFrame ops a0 u j).tmps g = some b := fun b hb => by
      unfold yielded
      have e : (ops[g]?).bind (·.dst) = some d := hd'
      rw [e]
      simp only [Option.bind_some, h1, hb]
    rcases hg with ⟨hb, hA⟩ | ⟨hb, hS⟩
    · have : Region.wanted o (yielded ops (lexFrame ops a0 u j).tmps) = true := by unfold Region.wanted; rw [hgu]; simp only [hy _ hb]; simp
      rw [if_pos this]
      exact hA
    · have : Region.wanted o (yielded ops (lexFrame ops a0 u j).tmps) = false := by unfold Region.wanted; rw [hgu]; simp only [hy _ hb]; cases want <;> rfl
      rw [if_neg (by rw [this]; decide)]
      exact hS
/-- The asks of all operations, one below another. -/
def SKOps (md : Region.Mode) (P : Program) (ops : Array Oper) (n : Nat) (B : Nat) (w0 : World) (a0 : Act) (κ : Nat → (Nat → Value) → FKind) (cons : Nat → Nat → Bool) (Res : Nat → Nat → Prop) : Nat → List Oper → Prop
  | _, [] => True
  | j, o :: rest => SKOp md P ops n B w0 a0 κ cons Res j o ∧ SKOps md P ops n B w0 a0 κ cons Res (j + 1) rest
theorem skOps_at {n B : Nat} {w0 : World} {κ : Nat → (Nat → Value) → FKind} {cons : Nat → Nat → Bool} {Res : Nat → Nat → Prop} {a0 : Act} : ∀ (l : List Oper) (k : Nat), (∀ j, j < l.length → l[j]? = ops[k + j]?) → SKOps md P ops n B w0 a0 κ cons Res k l →
    ∀ j o, j < l.length → ops[k + j]? = some o → SKOp md P ops n B w0 a0 κ cons Res (k + j) o
  | [], k, _, _, j, o, hj, _ => by simp at hj
  | x :: r, k, hl, h, j, o, hj, ho => by
    have h0 : ops[k]? = some x := by simpa using (hl 0 (by simp)).symm
    cases j with
    | zero =>
      have : x = o := Option.some.inj (h0.symm.trans ho)
      subst this
      exact h.1
    | succ j =>
      have := skOps_at (n := n) (B := B) (w0 := w0) (κ := κ) (cons := cons) (Res := Res) (a0 := a0) r (k + 1) (fun i hi => by have := hl (i + 1) (by simp; omega); simpa [Nat.add_assoc, Nat.add_comm 1 i] using this) h.2 j o (by simp at hj; omega) (by rw [← ho]; congr 1; omega)
      rw [show k + (j + 1) = k + 1 + j by omega]
      exact this

theorem any_res2 {Q : Exit → Act → World → Prop} {a : Act} {w : World} {l : List Oper} (n B : Nat) (κ : Nat → (Nat → Value) → FKind) (cons : Nat → Nat → Bool) (Res : Nat → Nat → Prop)
    (hB : kindB .any l.toArray n = true) (hT : tailB .any l.toArray n = true) (hC : consB .any l.toArray n cons = true) (hR : roomB l.toArray n a.tmps.size = true) (hBw : B ≤ w.heap.size) (hst : ∀ i u, i < n → KStable B cons Res (κ i u)) (hcg : ∀ i u u2, i < n → (∀ k, k < n → depOn l.toArray i k = true → u k = u2 k) → κ i u = κ i u2) (hRes : ResFacts n B w Res)
    (hops : SKOps .any P l.toArray n B w.drew a κ cons Res 0 (l.take n))
    (hend : ∀ (u : Nat → Value) (w' : World), Below B w.drew w' → (∀ b, b < w.heap.size → (∀ j, j < n → ¬ Res j b) → w'.heap[b]? = w.heap[b]?) → (∀ i, i < n → (∀ j, j < n → cons j i = false) → (κ i u).φ w' (u i)) → wpList P l.toArray Q (l.drop n) (lexPut u 0 (l.take n) a) w') :
    wpAny P .any l.toArray Q l.toArray.size (Array.replicate l.toArray.size false) a w.drew := by
  have hF := kindB_facts hB
  have hle : n ≤ l.length := by have := hF.le; simpa using this
  have h0 : unl (Array.replicate l.toArray.size false) n = n := unl_new _ n hF.le
  have hRes' : ResFacts n B w.drew Res := ⟨hRes.old, hRes.one⟩
  have h1 := skinds_any (P := P) (md := .any) (Q := Q) (a0 := a) (B := B) (w0 := w.drew) (κ := κ) (cons := cons) (Res := Res) hRes' hF (consB_facts hC) hT hst hcg (fun j o hj ho => by
      have := skOps_at (P := P) (ops := l.toArray) (n := n) (B := B) (w0 := w.drew) (κ := κ) (cons := cons) (Res := Res) (a0 := a) (l.take n) 0 (fun i hi => by
        have : i < n := by rw [List.length_take] at hi; omega
        simp [List.getElem?_take_of_lt this]) hops j o (by rw [List.length_take]; omega) (by rw [Nat.zero_add]; exact ho)
      rw [Nat.zero_add] at this
      exact skindOp_of hF hR hj ho this)
    (fun u w' hw hkp hφ => by
      have hT' := hT
      simp only [tailB, Bool.and_eq_true] at hT'
      have := wpAny_of_seq (P := P) (md := .any) (ops := l.toArray) (Q' := Q) (l.drop n) n (headL l.toArray n) (lexFrame l.toArray a u n) w' (fun j => by simp [List.getElem?_drop]) (by rw [List.length_drop]; exact hT'.2) (by
        have := lexPut_frame (ops := l.toArray) a u (l.take n) 0 (fun j hj => by
          have : j < n := by rw [List.length_take] at hj; omega
          simp [List.getElem?_take_of_lt this])
        rw [List.length_take, Nat.min_eq_left hle, Nat.zero_add] at this
        rw [this]
        exact hend u w' hw hkp hφ)
      rw [List.length_drop] at this
      exact this)
    n (Array.replicate l.toArray.size false) (fun _ => undef) a w.drew h0
    ⟨by simp, (fun j oj _ hl => by rw [getD_replicate_false] at hl; cases hl), (fun t ht htl => by simp at htl; simp [htl])⟩
    (FrameAt.nil (fun i hi => by rw [getD_replicate_false] at hi; exact absurd hi.2 (by decide))) (Below.refl _ _) hBw (fun i _ hi => by rw [getD_replicate_false] at hi; cases hi) (fun i k _ _ _ hi => by rw [getD_replicate_false] at hi; cases hi)
    (fun _ _ _ _ _ => rfl) (fun i j _ _ hi => by rw [getD_replicate_false] at hi; cases hi) (fun i _ hi => by rw [getD_replicate_false] at hi; cases hi) (fun _ _ _ => rfl)
  have e : n + (l.toArray.size - n) = l.toArray.size := by have := hF.le; omega
  rw [e] at h1
  exact h1
/-- A region by kinds, with reserves; behind its first n operations a tail that draws nothing. -/
theorem wp_region_res2 {id : Nat} {Q : Exit → Act → World → Prop} {a : Act} {w : World} {l : List Oper} (n B : Nat) (κ : Nat → (Nat → Value) → FKind) (cons : Nat → Nat → Bool) (Res : Nat → Nat → Prop) (hm : P.follows .mixedOrders = true)
    (hB : kindB .any l.toArray n = true) (hT : tailB .any l.toArray n = true) (hC : consB .any l.toArray n cons = true) (hR : roomB l.toArray n a.tmps.size = true) (hBw : B ≤ w.heap.size) (hst : ∀ i u, i < n → KStable B cons Res (κ i u)) (hcg : ∀ i u u2, i < n → (∀ k, k < n → depOn l.toArray i k = true → u k = u2 k) → κ i u = κ i u2) (hRes : ResFacts n B w Res)
    (hops : SKOps .any P l.toArray n B w.drew a κ cons Res 0 (l.take n))
    (hend : ∀ (u : Nat → Value) (w' : World), Below B w.drew w' → (∀ b, b < w.heap.size → (∀ j, j < n → ¬ Res j b) → w'.heap[b]? = w.heap[b]?) → (∀ i, i < n → (∀ j, j < n → cons j i = false) → (κ i u).φ w' (u i)) → wpList P l.toArray Q (l.drop n) (lexPut u 0 (l.take n) a) w') :
    (Code.region id l.toArray true).wp P Q a w :=
  wp_region_any hm (any_res2 n B κ cons Res hB hT hC hR hBw hst hcg hRes hops hend)
/-- the same in a round of a range over a function -/
theorem wpIn_region_res2 {id r m : Nat} {Q : Exit → Act → World → Prop} {a : Act} {w : World} {l : List Oper} (n B : Nat) (κ : Nat → (Nat → Value) → FKind) (cons : Nat → Nat → Bool) (Res : Nat → Nat → Prop) (hm : P.follows .mixedOrders = true) (hnd : noDefer l = true) (hQ : ¬ LetsOut Q)
    (hB : kindB .any l.toArray n = true) (hT : tailB .any l.toArray n = true) (hC : consB .any l.toArray n cons = true) (hR : roomB l.toArray n a.tmps.size = true) (hBw : B ≤ w.heap.size) (hst : ∀ i u, i < n → KStable B cons Res (κ i u)) (hcg : ∀ i u u2, i < n → (∀ k, k < n → depOn l.toArray i k = true → u k = u2 k) → κ i u = κ i u2) (hRes : ResFacts n B w Res)
    (hops : SKOps .any P l.toArray n B w.drew a κ cons Res 0 (l.take n))
    (hend : ∀ (u : Nat → Value) (w' : World), Below B w.drew w' → (∀ b, b < w.heap.size → (∀ j, j < n → ¬ Res j b) → w'.heap[b]? = w.heap[b]?) → (∀ i, i < n → (∀ j, j < n → cons j i = false) → (κ i u).φ w' (u i)) → wpList P l.toArray Q (l.drop n) (lexPut u 0 (l.take n) a) w') :
    (Code.region id l.toArray true).wpIn (Fence.wide.inRound r) m P Q a w :=
  wpIn_region_any hm (any_in hnd hQ _ _ _ _ (any_res2 n B κ cons Res hB hT hC hR hBw hst hcg hRes hops hend))
end
end Go.Proofs.YtpogffdbencfnaaGreatDoor
