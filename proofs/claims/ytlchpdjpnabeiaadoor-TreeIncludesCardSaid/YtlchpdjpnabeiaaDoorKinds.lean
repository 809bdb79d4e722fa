import Derived.StillTail
import Derived.Below
set_option linter.unusedVariables false
namespace Go.Proofs.YtlchpdjpnabeiaaDoor
open Go Go.RowKit

/-! Regions that draw their order, by kinds: each operation of the head has a kind (what its value is good for, in every later world); one walk of the text's order serves every order. -/
def Ext (w w' : World) : Prop := Below w.heap.size w w'
theorem Ext.refl (w : World) : Ext w w := Below.refl _ _
theorem Ext.trans {a b c : World} (h : Ext a b) (k : Ext b c) : Ext a c := Below.trans h (Below.mono k h.size)
abbrev Kind := World → Value → Prop
def Kind.Stable (φ : Kind) : Prop := ∀ w w' v, Ext w w' → φ w v → φ w' v
/-- one value -/
def valK (c : Value) : Kind := fun _ v => v = c
theorem valK_stable (c : Value) : Kind.Stable (valK c) := fun _ _ _ _ h => h
def anyK : Kind := fun _ _ => True
theorem anyK_stable : Kind.Stable anyK := fun _ _ _ _ h => h

def kindUpon (P : Program) (w : World) (φ : Kind) : Result Next → Prop
  | .ok (.value u) w' => Ext w w' ∧ φ w' u
  | .ok .skip w' => Ext w w' ∧ φ w' undef
  | .ok (.enter f args) w' => Calls P f args w' (fun e w'' => ∃ v, e = .returned v ∧ Ext w w'' ∧ φ w'' v)
  | _ => False
def kindAt (P : Program) (o : Oper) (a : Act) (w : World) (φ : Kind) : Prop := kindUpon P w φ ((execOp a.eval o).run P w)

section
variable {P : Program} {ops : Array Oper} {md : Region.Mode}
theorem kindUpon_value {w w' : World} {φ : Kind} {u : Value} : kindUpon P w φ (.ok (.value u) w') = (Ext w w' ∧ φ w' u) := rfl
theorem kindUpon_skip {w w' : World} {φ : Kind} : kindUpon P w φ (.ok .skip w') = (Ext w w' ∧ φ w' undef) := rfl
theorem kindUpon_enter {w w' : World} {φ : Kind} {f : FuncId} {args : Array Value} : kindUpon P w φ (.ok (.enter f args) w') = Calls P f args w' (fun e w'' => ∃ v, e = .returned v ∧ Ext w w'' ∧ φ w'' v) := rfl

theorem wp_of_kindAt {o : Oper} {a : Act} {w : World} {φ : Kind} {K : Act → World → Prop} {Q : Exit → Act → World → Prop} (h : kindAt P o a w φ)
    (hK : ∀ v w', Ext w w' → φ w' v → K (a.put o.dst v) w') : o.wp P a w K Q := by
  unfold kindAt at h
  unfold Oper.wp
  generalize (execOp a.eval o).run P w = r at *
  cases r with
  | ok n w' =>
    cases n <;> simp only [kindUpon] at h <;> simp only [Oper.upon]
    case value u => exact hK _ _ h.1 h.2
    case skip => exact hK _ _ h.1 h.2
    case enter f args => exact h.mono fun e w'' ⟨v, he, h1, h2⟩ => by subst he; exact hK _ _ h1 h2
  | halt x w' => simp only [kindUpon] at h

def dstOf (ops : Array Oper) (i : Nat) : Option Tmp := (ops[i]?).bind (·.dst)
theorem dstOf_some {i : Nat} {o : Oper} (h : ops[i]? = some o) : dstOf ops i = o.dst := by simp [dstOf, h]
def depB (ops : Array Oper) (o : Oper) (i : Nat) : Bool := match dstOf ops i with
  | some d => (o.looksAt ops).contains d
  | none => false
def lexFrame (ops : Array Oper) (a0 : Act) (u : Nat → Value) : Nat → Act
  | 0 => a0
  | k + 1 => (lexFrame ops a0 u k).put (dstOf ops k) (u k)
def kindB (md : Region.Mode) (ops : Array Oper) (n : Nat) : Bool :=
  Region.noSelect ops && decide (n ≤ ops.size) &&
  ((List.range n).all fun j => (match ops[j]? with
    | some oj => oj.after.all fun e => !Region.binds md e || decide (e.on < j)
    | none => true)) &&
  ((List.range n).all fun j => (List.range n).all fun i => match dstOf ops i, ops[j]? with
    | some d, some oj => (i == j || oj.dst != some d) && (!(oj.looksAt ops).contains d || (decide (i < j) && Region.waitsFor md ops j i))
    | _, _ => true)

structure FrameAt (ops : Array Oper) (a0 : Act) (u : Nat → Value) (S : Nat → Prop) (a : Act) : Prop where
  defers : a.defers = a0.defers
  size : a.tmps.size = a0.tmps.size
  old : ∀ t, (∀ i, S i → dstOf ops i ≠ some t) → a.tmps[t]? = a0.tmps[t]?
  new : ∀ i d, S i → dstOf ops i = some d → a.tmps[d]? = (a0.tmps[d]?).map fun _ => u i

theorem FrameAt.nil {a0 : Act} {u : Nat → Value} {S : Nat → Prop} (h : ∀ i, ¬ S i) : FrameAt ops a0 u S a0 :=
  ⟨rfl, rfl, fun _ _ => rfl, fun i _ hi => absurd hi (h i)⟩
theorem FrameAt.put {a0 a : Act} {u : Nat → Value} {S T : Nat → Prop} (h : FrameAt ops a0 u S a) (j : Nat) (hd : ∀ i, S i → ∀ d, dstOf ops j = some d → dstOf ops i ≠ some d)
    (hT : ∀ i, T i ↔ S i ∨ i = j) : FrameAt ops a0 u T (a.put (dstOf ops j) (u j)) := by
  cases hj : dstOf ops j with
  | none =>
    refine ⟨h.defers, h.size, fun t ht => h.old t fun i hi => ht i ((hT i).2 (.inl hi)), fun i d hi hid => ?_⟩
    rcases (hT i).1 hi with hi | rfl
    · exact h.new i d hi hid
    · rw [hj] at hid; cases hid
  | some t0 =>
    have hs : (a.put (some t0) (u j)).tmps.size = a0.tmps.size := by simp [Act.put, h.size]
    refine ⟨h.defers, hs, fun t ht => ?_, fun i d hi hid => ?_⟩
    · have hne : t0 ≠ t := fun e => ht j ((hT j).2 (.inr rfl)) (by rw [hj, e])
      have := h.old t fun i hi => ht i ((hT i).2 (.inl hi))
      simp only [Act.put]
      rw [Array.getElem?_setIfInBounds_ne hne]
      exact this
    · rcases (hT i).1 hi with hi | rfl
      · have hne : t0 ≠ d := fun e => hd i hi t0 hj (by rw [hid, e])
        simp only [Act.put]
        rw [Array.getElem?_setIfInBounds_ne hne]
        exact h.new i d hi hid
      · rw [hj] at hid
        cases hid
        simp only [Act.put]
        rw [Array.getElem?_setIfInBounds_self]
        by_cases hlt : a.tmps.size ≤ t0
        · have h9 : a0.tmps.size ≤ t0 := by have := h.size; omega
          rw [if_neg (Nat.not_lt.2 hlt), Array.getElem?_eq_none h9]; rfl
        · have h8 := Nat.lt_of_not_le hlt
          have h9 : @LT.lt Nat _ t0 a0.tmps.size := by have := h.size; omega
          rw [if_pos h8, Array.getElem?_eq_getElem h9]; rfl
theorem FrameAt.congr {a0 a : Act} {u v : Nat → Value} {S : Nat → Prop} (h : FrameAt ops a0 u S a) (e : ∀ i, S i → u i = v i) : FrameAt ops a0 v S a :=
  ⟨h.defers, h.size, h.old, fun i d hi hid => by rw [h.new i d hi hid, e i hi]⟩
theorem FrameAt.same {a0 a b : Act} {u : Nat → Value} {S T : Nat → Prop} (h : FrameAt ops a0 u S a) (k : FrameAt ops a0 u T b) (t : Tmp) (e : ∀ i, dstOf ops i = some t → (S i ↔ T i)) :
    a.tmps[t]? = b.tmps[t]? := by
  by_cases hx : ∃ i, S i ∧ dstOf ops i = some t
  · obtain ⟨i, hi, hd⟩ := hx
    rw [h.new i t hi hd, k.new i t ((e i hd).1 hi) hd]
  · rw [h.old t fun i hi hd => hx ⟨i, hi, hd⟩, k.old t fun i hi hd => hx ⟨i, (e i hd).2 hi, hd⟩]
theorem FrameAt.eq {a0 a b : Act} {u : Nat → Value} {S T : Nat → Prop} (h : FrameAt ops a0 u S a) (k : FrameAt ops a0 u T b) (e : ∀ i, S i ↔ T i) : a = b := by
  have h1 : a.tmps = b.tmps := by
    apply Array.ext_getElem?
    intro t
    exact h.same k t fun i _ => e i
  have h2 : a.defers = b.defers := h.defers.trans k.defers.symm
  cases a; cases b
  simp only at h1 h2
  rw [h1, h2]

structure KindFacts (md : Region.Mode) (ops : Array Oper) (n : Nat) : Prop where
  sel : Region.noSelect ops = true
  le : n ≤ ops.size
  edge : ∀ j oj, j < n → ops[j]? = some oj → ∀ e ∈ oj.after, Region.binds md e = true → e.on < j
  apart : ∀ i j, i < n → j < n → i ≠ j → ∀ d, dstOf ops i = some d → dstOf ops j ≠ some d
  look : ∀ i j, i < n → j < n → ∀ d oj, dstOf ops i = some d → ops[j]? = some oj → d ∈ oj.looksAt ops → i < j ∧ Region.waitsFor md ops j i = true
theorem kindB_facts {n : Nat} (h : kindB md ops n = true) : KindFacts md ops n := by
  simp only [kindB, Bool.and_eq_true, decide_eq_true_eq] at h
  obtain ⟨⟨⟨h1, h2⟩, h3⟩, h4⟩ := h
  refine ⟨h1, h2, fun j oj hj ho e he hb => ?_, fun i j hi hj hne d hd hd2 => ?_, fun i j hi hj d oj hd ho hl => ?_⟩
  · have := List.all_eq_true.1 h3 j (List.mem_range.2 hj)
    simp only [ho, Array.all_eq_true_iff_forall_mem] at this
    have := this e he
    simp only [hb, Bool.not_true, Bool.false_or, decide_eq_true_eq] at this
    exact this
  · have hlt : j < ops.size := by omega
    have := List.all_eq_true.1 (List.all_eq_true.1 h4 j (List.mem_range.2 hj)) i (List.mem_range.2 hi)
    have ho : ops[j]? = some ops[j] := Array.getElem?_eq_getElem hlt
    rw [dstOf_some ho] at hd2
    simp only [hd, ho, Bool.and_eq_true, Bool.or_eq_true, beq_iff_eq, bne_iff_ne] at this
    rcases this.1 with h | h
    · exact hne h
    · exact h hd2
  · have := List.all_eq_true.1 (List.all_eq_true.1 h4 j (List.mem_range.2 hj)) i (List.mem_range.2 hi)
    simp only [hd, ho, Bool.and_eq_true, Bool.or_eq_true, Bool.not_eq_true', decide_eq_true_eq] at this
    rcases this.2 with h | h
    · rw [List.contains_eq_mem, decide_eq_false_iff_not] at h
      exact absurd hl h
    · exact h
theorem lexFrame_at {n : Nat} (hF : KindFacts md ops n) (a0 : Act) (u : Nat → Value) : ∀ k, k ≤ n → FrameAt ops a0 u (· < k) (lexFrame ops a0 u k)
  | 0, _ => FrameAt.nil fun i hi => by omega
  | k + 1, hk => (lexFrame_at hF a0 u k (by omega)).put k (fun i hi d hd => fun e => hF.apart i k (by omega) (by omega) (by omega) d e hd) (fun i => by omega)

theorem wanted_congr {o : Oper} {t t' : Array Value} (h : ∀ d, d ∈ o.looksAt ops → t[d]? = t'[d]?) : Region.wanted o (yielded ops t) = Region.wanted o (yielded ops t') := by
  unfold Region.wanted
  cases hg : o.guard with
  | none => rfl
  | some gw =>
    obtain ⟨g, want⟩ := gw
    have hy : yielded ops t g = yielded ops t' g := by
      unfold yielded
      cases ht : (ops[g]?).bind (·.dst) with
      | none => rfl
      | some d =>
        have := h d (by simp [Oper.looksAt, hg, ht])
        simp only [Option.bind_some, this]
    simp only [hy]
theorem exec_congr {o : Oper} (hs : ∀ cs b, o.op ≠ .select cs b) {a b : Act} (h : ∀ d, d ∈ o.looksAt ops → a.tmps[d]? = b.tmps[d]?) : execOp a.eval o = execOp b.eval o :=
  execOp_congr o hs fun x hx => by
    cases x with
    | tmp d =>
      have := h d (List.mem_append_left _ (List.mem_filterMap.2 ⟨.tmp d, by simpa using hx, rfl⟩))
      simp only [Act.eval, Array.getD_eq_getD_getElem?, this]
    | _ => rfl

def upd (u : Nat → Value) (j : Nat) (v : Value) : Nat → Value := fun i => if i = j then v else u i
theorem upd_same (u : Nat → Value) (j : Nat) (v : Value) : upd u j v j = v := if_pos rfl
theorem upd_ne (u : Nat → Value) {i j : Nat} (v : Value) (h : i ≠ j) : upd u j v i = u i := if_neg h

/-- What is asked of operation number j. -/
def KindOp (P : Program) (ops : Array Oper) (n : Nat) (w0 : World) (φ : Nat → Kind) (A : (Nat → Value) → Act) (j : Nat) (o : Oper) : Prop :=
  ∀ (u : Nat → Value) (w : World), Ext w0 w → (∀ i, i < n → depB ops o i = true → φ i w (u i)) →
    if Region.wanted o (yielded ops (A u).tmps) then kindAt P o (A u) w (φ j) else φ j w undef

theorem listed_count (n : Nat) (L : Array Bool) : ∀ m, m ≤ n → (∀ i, i < m → L.getD i true = true) ∨ ∃ i, i < m ∧ L.getD i true = false ∧ ∀ k, k < i → L.getD k true = true
  | 0, _ => .inl fun i hi => by omega
  | m + 1, hm => by
    rcases listed_count n L m (by omega) with h | ⟨i, hi, h1, h2⟩
    · cases hL : L.getD m true with
      | true =>
        left
        intro i hi
        rcases Nat.lt_or_ge i m with h' | h'
        · exact h i h'
        · rw [show i = m by omega]; exact hL
      | false => exact .inr ⟨m, by omega, hL, h⟩
    · exact .inr ⟨i, by omega, h1, h2⟩

def unl (L : Array Bool) : Nat → Nat
  | 0 => 0
  | m + 1 => unl L m + if L.getD m true then 0 else 1
theorem unl_set (L : Array Bool) (j : Nat) (hj : L.getD j true = false) : ∀ n, (j < n → unl L n = unl (L.setIfInBounds j true) n + 1) ∧ (n ≤ j → unl L n = unl (L.setIfInBounds j true) n)
  | 0 => ⟨fun h => by omega, fun _ => rfl⟩
  | m + 1 => by
    obtain ⟨h1, h2⟩ := unl_set L j hj m
    have hjs : j < L.size := by
      rcases Nat.lt_or_ge j L.size with h | h
      · exact h
      · simp [Array.getElem?_eq_none h] at hj
    refine ⟨fun h => ?_, fun h => ?_⟩
    · by_cases e : j = m
      · subst e
        rw [unl, unl, h2 (Nat.le_refl _), hj]
        have : (L.setIfInBounds j true).getD j true = true := by simp [hjs]
        rw [this]; rfl
      · rw [unl, unl, h1 (by omega), getD_set_ne true e]; omega
    · rw [unl, unl, h2 (by omega), getD_set_ne true (by omega)]
theorem unl_zero (L : Array Bool) : ∀ n, unl L n = 0 → ∀ i, i < n → L.getD i true = true
  | 0, _, i, hi => by omega
  | m + 1, h, i, hi => by
    rw [unl] at h
    rcases Nat.lt_or_ge i m with h' | h'
    · exact unl_zero L m (by omega) i h'
    · rw [show i = m by omega]
      cases hL : L.getD m true with
      | true => rfl
      | false => rw [hL] at h; simp at h
theorem unl_new (k : Nat) : ∀ n, n ≤ k → unl (Array.replicate k false) n = n
  | 0, _ => rfl
  | m + 1, h => by
    rw [unl, unl_new k m (by omega)]
    simp [show m < k by omega]

/-- the listed of the head -/
def headL (ops : Array Oper) (n : Nat) : Array Bool := (Array.range ops.size).map fun i => decide (i < n)
def tailB (md : Region.Mode) (ops : Array Oper) (n : Nat) : Bool :=
  (n == ops.size || (Region.sinkB md ops n && Region.chainB md ops n)) && Region.seqB md ops (ops.size - n) n (headL ops n)

theorem kinds_any {n : Nat} {φ : Nat → Kind} {a0 : Act} {w0 : World} {Q : Exit → Act → World → Prop} (hF : KindFacts md ops n) (hT : tailB md ops n = true)
    (hst : ∀ i, i < n → (φ i).Stable)
    (hops : ∀ j o, j < n → ops[j]? = some o → KindOp P ops n w0 φ (fun u => lexFrame ops a0 u j) j o)
    (hend : ∀ (u : Nat → Value) (w : World), Ext w0 w → (∀ i, i < n → φ i w (u i)) → wpAny P md ops Q (ops.size - n) (headL ops n) (lexFrame ops a0 u n) w) :
    ∀ (m : Nat) (L : Array Bool) (u : Nat → Value) (a : Act) (w : World), unl L n = m → HeadInv md ops n L → FrameAt ops a0 u (fun i => i < n ∧ L.getD i false = true) a →
      Ext w0 w → (∀ i, i < n → L.getD i false = true → φ i w (u i)) → wpAny P md ops Q (m + (ops.size - n)) L a w := by
  simp only [tailB, Bool.and_eq_true, Bool.or_eq_true, beq_iff_eq] at hT
  obtain ⟨hT1, hT2⟩ := hT
  intro m
  induction m with
  | zero =>
    intro L u a w hm inv hf hw hφ
    have hall := unl_zero L n hm
    have hle := hF.le
    have hL : L = headL ops n := by
      apply Array.ext
      · rw [inv.size]; simp [headL]
      · intro i h1 h2
        by_cases hin : i < n
        · have := hall i hin
          simp [h1] at this
          simp [headL, hin, this]
        · have := inv.tail i (by omega) (by rw [← inv.size]; exact h1)
          simp [h1] at this
          simp [headL, hin, this]
    have ht : ∀ i, i < n → L.getD i false = true := fun i hi => by
      have h1 := hall i hi
      have : i < L.size := by rw [inv.size]; omega
      simp [this] at h1 ⊢
      exact h1
    have ha : a = lexFrame ops a0 u n := hf.eq (lexFrame_at hF a0 u n (Nat.le_refl _)) fun i => ⟨fun h => h.1, fun h => ⟨h, ht i h⟩⟩
    rw [Nat.zero_add, ha, hL]
    exact hend u w hw fun i hi => hφ i hi (ht i hi)
  | succ m ih =>
    intro L u a w hm inv hf hw hφ
    have hle := hF.le
    obtain ⟨i0, hi0, hu0, hlow⟩ : ∃ i, i < n ∧ L.getD i true = false ∧ ∀ k, k < i → L.getD k true = true := by
      rcases listed_count n L n (Nat.le_refl _) with h | h
      · exfalso
        have : ∀ k, k ≤ n → unl L k = 0 := by
          intro k
          induction k with
          | zero => intro _; rfl
          | succ k ihk => intro hk; rw [unl, ihk (by omega), h k (by omega)]; rfl
        rw [this n (Nat.le_refl _)] at hm
        omega
      · exact h
    have hready : i0 ∈ Region.ready md ops L := by
      have ho : ops[i0]? = some ops[i0] := Array.getElem?_eq_getElem (by omega)
      refine mem_ready.2 ⟨hu0, _, ho, fun e he hb => ?_⟩
      have h1 := hF.edge i0 _ hi0 ho e he hb
      have h2 := hlow e.on h1
      have : e.on < L.size := by rw [inv.size]; omega
      simp [this] at h2 ⊢
      exact h2
    rw [show m + 1 + (ops.size - n) = (m + (ops.size - n)) + 1 by omega]
    refine ⟨fun h0 => (by rw [h0] at hready; cases hready), fun j hj => ?_⟩
    have hjn : j < n := by
      obtain ⟨_, oj, hoj, _⟩ := mem_ready.1 hj
      have hjs := (Array.getElem?_eq_some_iff.1 hoj).1
      rcases hT1 with h | h
      · omega
      · rcases Nat.lt_or_ge j n with h' | h'
        · exact h'
        · exact absurd hj (tail_waits h.1 h.2 (by omega) inv _ i0 rfl hi0 hu0 j h')
    obtain ⟨hjun, oj, hoj, hall⟩ := mem_ready.1 hj
    have hwait : ∀ i, Region.waitsFor md ops j i = true → L.getD i false = true := fun i hi => by
      obtain ⟨o', ho', e, he, hb, hon⟩ := Region.waitsFor_spec hi
      have : o' = oj := Option.some.inj (ho'.symm.trans hoj)
      subst this
      rw [← hon]
      exact hall e he hb
    have hlex := lexFrame_at hF a0 u j (by omega)
    have hsame : ∀ d, d ∈ oj.looksAt ops → a.tmps[d]? = (lexFrame ops a0 u j).tmps[d]? := fun d hd => by
      by_cases hx : ∃ i, i < n ∧ dstOf ops i = some d
      · obtain ⟨i, hi, hid⟩ := hx
        have h1 := hF.look i j hi hjn d oj hid hoj hd
        have h2 := hwait i h1.2
        rw [hf.new i d ⟨hi, h2⟩ hid, hlex.new i d h1.1 hid]
      · rw [hf.old d fun i hi hid => hx ⟨i, hi.1, hid⟩, hlex.old d fun i hi hid => hx ⟨i, by omega, hid⟩]
    have hsel := Region.noSelect_spec hF.sel j
    have hex : execOp a.eval oj = execOp (lexFrame ops a0 u j).eval oj := exec_congr (ops := ops) (fun cs b => hsel oj cs b hoj) hsame
    have hwa : Region.wanted oj (yielded ops a.tmps) = Region.wanted oj (yielded ops (lexFrame ops a0 u j).tmps) := wanted_congr hsame
    have hop := hops j oj hjn hoj u w hw fun i hi hd => by
      have hdep : ∃ d, dstOf ops i = some d ∧ d ∈ oj.looksAt ops := by
        unfold depB at hd
        split at hd
        · rename_i d hd'
          exact ⟨d, hd', by simpa using hd⟩
        · cases hd
      obtain ⟨d, hd1, hd2⟩ := hdep
      exact hφ i hi (hwait i (hF.look i j hi hjn d oj hd1 hoj hd2).2)
    have hnext : ∀ v w', Ext w w' → φ j w' v → wpAny P md ops Q (m + (ops.size - n)) (L.setIfInBounds j true) (a.put oj.dst v) w' := fun v w' hww hv => by
      have hj0 : ¬ L.getD j false = true := by rw [getD_both hjun]; simp
      have hu' := unl_set L j hjun n
      refine ih (L.setIfInBounds j true) (upd u j v) (a.put oj.dst v) w' (by have := hu'.1 hjn; omega) (inv.set hj hjn) ?_ (hw.trans hww) fun i hi hLi => ?_
      · have h1 : FrameAt ops a0 (upd u j v) (fun i => i < n ∧ L.getD i false = true) a := hf.congr fun i hi => by
          rw [upd_ne u v fun e => hj0 (by rw [← e]; exact hi.2)]
        have h2 := h1.put (T := fun i => i < n ∧ (L.setIfInBounds j true).getD i false = true) j (fun i hi d hd => fun e => hF.apart i j hi.1 hjn (fun e' => hj0 (by rw [← e']; exact hi.2)) d e hd) (fun i => by
          by_cases e : j = i
          · subst e
            have hjs : j < L.size := by rw [inv.size]; omega
            simp [hjs, hjn]
          · rw [getD_set_ne false e]
            constructor
            · exact fun h => .inl h
            · rintro (h | h)
              · exact h
              · exact absurd h.symm e)
        rw [upd_same, dstOf_some hoj] at h2
        exact h2
      · by_cases e : j = i
        · subst e; rw [upd_same]; exact hv
        · rw [getD_set_ne false e] at hLi
          rw [upd_ne u v (Ne.symm e)]
          exact hst i hi w w' _ hww (hφ i hi hLi)
    show wpOp P ops Q j _ a w
    unfold wpOp
    rw [hoj]
    simp only
    rw [hwa]
    split
    · rename_i hwt
      rw [if_pos hwt] at hop
      left
      refine wp_of_kindAt (φ := φ j) ?_ fun v w' h1 h2 => hnext v w' h1 h2
      unfold kindAt at hop ⊢
      rw [hex]
      exact hop
    · rename_i hwt
      rw [if_neg hwt] at hop
      exact hnext undef w (Ext.refl w) hop

/-- The asks of all operations of the head, one below another. -/
def KindOps (P : Program) (ops : Array Oper) (n : Nat) (w0 : World) (φ : Nat → Kind) : Nat → List Oper → ((Nat → Value) → Act) → Prop
  | _, [], _ => True
  | j, o :: rest, A => KindOp P ops n w0 φ A j o ∧ KindOps P ops n w0 φ (j + 1) rest fun u => (A u).put o.dst (u j)
theorem kindOps_at {n : Nat} {w0 : World} {φ : Nat → Kind} {a0 : Act} : ∀ (l : List Oper) (k : Nat), (∀ j, j < l.length → l[j]? = ops[k + j]?) → KindOps P ops n w0 φ k l (fun u => lexFrame ops a0 u k) →
    ∀ j o, j < l.length → ops[k + j]? = some o → KindOp P ops n w0 φ (fun u => lexFrame ops a0 u (k + j)) (k + j) o
  | [], _, _, _, j, o, hj, _ => by simp at hj
  | x :: r, k, hl, h, j, o, hj, ho => by
    have h0 : ops[k]? = some x := by simpa using (hl 0 (by simp)).symm
    cases j with
    | zero =>
      have : x = o := Option.some.inj (h0.symm.trans ho)
      subst this
      exact h.1
    | succ j =>
      have := kindOps_at (n := n) (w0 := w0) (φ := φ) (a0 := a0) r (k + 1) (fun i hi => by have := hl (i + 1) (by simp; omega); simpa [Nat.add_assoc, Nat.add_comm 1 i] using this)
        (by have h2 := h.2; simp only [lexFrame, dstOf_some h0]; exact h2) j o (by simp at hj; omega) (by rw [← ho]; congr 1; omega)
      rw [show k + (j + 1) = k + 1 + j by omega]
      exact this

theorem wp_region_kinds {id : Nat} {Q : Exit → Act → World → Prop} {a : Act} {w : World} {l : List Oper} (n : Nat) (φ : Nat → Kind) (hm : P.follows .mixedOrders = true)
    (hB : kindB .any l.toArray n = true) (hT : tailB .any l.toArray n = true) (hst : ∀ i, i < n → (φ i).Stable)
    (hops : KindOps P l.toArray n w.drew φ 0 (l.take n) (fun _ => a))
    (hend : ∀ (u : Nat → Value) (w' : World), Ext w.drew w' → (∀ i, i < n → φ i w' (u i)) → wpList P l.toArray Q (l.drop n) (lexFrame l.toArray a u n) w') :
    (Code.region id l.toArray true).wp P Q a w := by
  have hF := kindB_facts hB
  have hle : n ≤ l.length := by have := hF.le; simpa using this
  refine wp_region_any hm ?_
  have h0 : unl (Array.replicate l.toArray.size false) n = n := unl_new _ n hF.le
  have h1 := kinds_any (P := P) (md := .any) (Q := Q) (a0 := a) (w0 := w.drew) (φ := φ) hF hT hst (fun j o hj ho => by
      have := kindOps_at (P := P) (ops := l.toArray) (n := n) (w0 := w.drew) (φ := φ) (a0 := a) (l.take n) 0 (fun i hi => by
        have : i < n := by rw [List.length_take] at hi; omega
        simp [List.getElem?_take_of_lt this]) hops j o (by rw [List.length_take]; omega) (by rw [Nat.zero_add]; exact ho)
      rw [Nat.zero_add] at this
      exact this)
    (fun u w' hw hφ => by
      have hT' := hT
      simp only [tailB, Bool.and_eq_true] at hT'
      have := wpAny_of_seq (P := P) (md := .any) (ops := l.toArray) (Q' := Q) (l.drop n) n (headL l.toArray n) (lexFrame l.toArray a u n) w' (fun j => by simp [List.getElem?_drop]) (by rw [List.length_drop]; exact hT'.2) (hend u w' hw hφ)
      rw [List.length_drop] at this
      exact this)
    n (Array.replicate l.toArray.size false) (fun _ => undef) a w.drew h0
    ⟨by simp, (fun j oj _ hl => by rw [getD_replicate_false] at hl; cases hl), (fun t ht htl => by simp at htl; simp [htl])⟩
    (FrameAt.nil (fun i hi => by rw [getD_replicate_false] at hi; exact absurd hi.2 (by decide))) (Ext.refl _) (fun i _ hi => by rw [getD_replicate_false] at hi; cases hi)
  have e : n + (l.toArray.size - n) = l.toArray.size := by have := hF.le; omega
  rw [e] at h1
  exact h1
end
end Go.Proofs.YtlchpdjpnabeiaaDoor
