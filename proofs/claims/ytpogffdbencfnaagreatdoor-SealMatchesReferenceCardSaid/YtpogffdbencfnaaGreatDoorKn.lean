import Derived.StillTail
import Derived.Below
import Derived.OrdersIn
import Derived.RangeFuncCalls
set_option linter.unusedVariables false
namespace Go.Proofs.YtpogffdbencfnaaGreatDoor
open Go Go.RowKit

/-! Regions that draw their order, by kinds: each operation of the head has a kind (what its value is good for, in every later world); one walk of the text's order serves every order. -/
def Ext (w w' : World) : Prop := Below w.heap.size w w'
theorem Ext.refl (w : World) : Ext w w := Below.refl _ _
theorem Ext.trans {a b c : World} (h : Ext a b) (k : Ext b c) : Ext a c := Below.trans h (Below.mono k h.size)
abbrev Kind := World → Value → Prop
def Kind.Stable (φ : Kind) : Prop := ∀ w w' v, Ext w w' → φ w v → φ w' v
/-- one value -/
def valK (c : Value) : Kind := fun _ v => v = c
theorem valK_stable (c : Value) : Kind.Stable (valK c) := fun _ _ _ _ h => h
def anyK : Kind := fun _ _ => True
theorem anyK_stable : Kind.Stable anyK := fun _ _ _ _ h => h

def kindUpon (P : Program) (w : World) (φ : Kind) : Result Next → Prop
  | .ok (.value u) w' => Ext w w' ∧ φ w' u
  | .ok .skip w' => Ext w w' ∧ φ w' undef
  | .ok (.enter f args) w' => Calls P f args w' (fun e w'' => ∃ v, e = .returned v ∧ Ext w w'' ∧ φ w'' v)
  | _ => False
def kindAt (P : Program) (o : Oper) (a : Act) (w : World) (φ : Kind) : Prop := kindUpon P w φ ((execOp a.eval o).run P w)

section
variable {P : Program} {ops : Array Oper} {md : Region.Mode}
theorem kindUpon_value {w w' : World} {φ : Kind} {u : Value} : kindUpon P w φ (.ok (.value u) w') = (Ext w w' ∧ φ w' u) := rfl
theorem kindUpon_skip {w w' : World} {φ : Kind} : kindUpon P w φ (.ok .skip w') = (Ext w w' ∧ φ w' undef) := rfl
theorem kindUpon_enter {w w' : World} {φ : Kind} {f : FuncId} {args : Array Value} : kindUpon P w φ (.ok (.enter f args) w') = Calls P f args w' (fun e w'' => ∃ v, e = .returned v ∧ Ext w w'' ∧ φ w'' v) := rfl

theorem wp_of_kindAt {o : Oper} {a : Act} {w : World} {φ : Kind} {K : Act → World → Prop} {Q : Exit → Act → World → Prop} (h : kindAt P o a w φ)
    (hK : ∀ v w', Ext w w' → φ w' v → K (a.put o.dst v) w') : o.wp P a w K Q := by
  unfold kindAt at h
  unfold Oper.wp
  generalize (execOp a.eval o).run P w = r at *
  cases r with
  | ok n w' =>
    cases n <;> simp only [kindUpon] at h <;> simp only [Oper.upon]
    case value u => exact hK _ _ h.1 h.2
    case skip => exact hK _ _ h.1 h.2
    case enter f args => exact h.mono fun e w'' ⟨v, he, h1, h2⟩ => by subst he; exact hK _ _ h1 h2
  | halt x w' => simp only [kindUpon] at h

def dstOf (ops : Array Oper) (i : Nat) : Option Tmp := (ops[i]?).bind (·.dst)
theorem dstOf_some {i : Nat} {o : Oper} (h : ops[i]? = some o) : dstOf ops i = o.dst := by simp [dstOf, h]
def depB (ops : Array Oper) (o : Oper) (i : Nat) : Bool := match dstOf ops i with
  | some d => (o.looksAt ops).contains d
  | none => false
def lexFrame (ops : Array Oper) (a0 : Act) (u : Nat → Value) : Nat → Act
  | 0 => a0
  | k + 1 => (lexFrame ops a0 u k).put (dstOf ops k) (u k)
def kindB (md : Region.Mode) (ops : Array Oper) (n : Nat) : Bool :=
  Region.noSelect ops && decide (n ≤ ops.size) &&
  ((List.range n).all fun j => (match ops[j]? with
    | some oj => oj.after.all fun e => !Region.binds md e || decide (e.on < j)
    | none => true)) &&
  ((List.range n).all fun j => (List.range n).all fun i => match dstOf ops i, ops[j]? with
    | some d, some oj => (i == j || oj.dst != some d) && (!(oj.looksAt ops).contains d || (decide (i < j) && Region.waitsFor md ops j i))
    | _, _ => true)

structure FrameAt (ops : Array Oper) (a0 : Act) (u : Nat → Value) (S : Nat → Prop) (a : Act) : Prop where
  defers : a.defers = a0.defers
  size : a.tmps.size = a0.tmps.size
  old : ∀ t, (∀ i, S i → dstOf ops i ≠ some t) → a.tmps[t]? = a0.tmps[t]?
  new : ∀ i d, S i → dstOf ops i = some d → a.tmps[d]? = (a0.tmps[d]?).map fun _ => u i

theorem FrameAt.nil {a0 : Act} {u : Nat → Value} {S : Nat → Prop} (h : ∀ i, ¬ S i) : FrameAt ops a0 u S a0 :=
  ⟨rfl, rfl, fun _ _ => rfl, fun i _ hi => absurd hi (h i)⟩
theorem FrameAt.put {a0 a : Act} {u : Nat → Value} {S T : Nat → Prop} (h : FrameAt ops a0 u S a) (j : Nat) (hd : ∀ i, S i → ∀ d, dstOf ops j = some d → dstOf ops i ≠ some d)
    (hT : ∀ i, T i ↔ S i ∨ i = j) : FrameAt ops a0 u T (a.put (dstOf ops j) (u j)) := by
  cases hj : dstOf ops j with
  | none =>
    refine ⟨h.defers, h.size, fun t ht => h.old t fun i hi => ht i ((hT i).2 (.inl hi)), fun i d hi hid => ?_⟩
    rcases (hT i).1 hi with hi | rfl
    · exact h.new i d hi hid
    · rw [hj] at hid; cases hid
  | some t0 =>
    have hs : (a.put (some t0) (u j)).tmps.size = a0.tmps.size := by simp [Act.put, h.size]
    refine ⟨h.defers, hs, fun t ht => ?_, fun i d hi hid => ?_⟩
    · have hne : t0 ≠ t := fun e => ht j ((hT j).2 (.inr rfl)) (by rw [hj, e])
      have := h.old t fun i hi => ht i ((hT i).2 (.inl hi))
      simp only [Act.put]
      rw [Array.getElem?_setIfInBounds_ne hne]
      exact this
    · rcases (hT i).1 hi with hi | rfl
      · have hne : t0 ≠ d := fun e => hd i hi t0 hj (by rw [hid, e])
        simp only [Act.put]
        rw [Array.getElem?_setIfInBounds_ne hne]
        exact h.new i d hi hid
      · rw [hj] at hid
        cases hid
        simp only [Act.put]
        rw [Array.getElem?_setIfInBounds_self]
        by_cases hlt : a.tmps.size ≤ t0
        · have h9 : a0.tmps.size ≤ t0 := by have := h.size; omega
          rw [if_neg (Nat.not_lt.2 hlt), Array.getElem?_eq_none h9]; rfl
        · have h8 := Nat.lt_of_not_le hlt
          have h9 : @LT.lt Nat _ t0 a0.tmps.size := by have := h.size; omega
          rw [if_pos h8, Array.getElem?_eq_getElem h9]; rfl
theorem FrameAt.congr {a0 a : Act} {u v : Nat → Value} {S : Nat → Prop} (h : FrameAt ops a0 u S a) (e : ∀ i, S i → u i = v i) : FrameAt ops a0 v S a :=
  ⟨h.defers, h.size, h.old, fun i d hi hid => by rw [h.new i d hi hid, e i hi]⟩
theorem FrameAt.same {a0 a b : Act} {u : Nat → Value} {S T : Nat → Prop} (h : FrameAt ops a0 u S a) (k : FrameAt ops a0 u T b) (t : Tmp) (e : ∀ i, dstOf ops i = some t → (S i ↔ T i)) :
    a.tmps[t]? = b.tmps[t]? := by
  by_cases hx : ∃ i, S i ∧ dstOf ops i = some t
  · obtain ⟨i, hi, hd⟩ := hx
    rw [h.new i t hi hd, k.new i t ((e i hd).1 hi) hd]
  · rw [h.old t fun i hi hd => hx ⟨i, hi, hd⟩, k.old t fun i hi hd => hx ⟨i, (e i hd).2 hi, hd⟩]
theorem FrameAt.eq {a0 a b : Act} {u : Nat → Value} {S T : Nat → Prop} (h : FrameAt ops a0 u S a) (k : FrameAt ops a0 u T b) (e : ∀ i, S i ↔ T i) : a = b := by
  have h1 : a.tmps = b.tmps := by
    apply Array.ext_getElem?
    intro t
    exact h.same k t fun i _ => e i
  have h2 : a.defers = b.defers := h.defers.trans k.defers.symm
  cases a; cases b
  simp only at h1 h2
  rw [h1, h2]

structure KindFacts (md : Region.Mode) (ops : Array Oper) (n : Nat) : Prop where
  sel : Region.noSelect ops = true
  le : n ≤ ops.size
  edge : ∀ j oj, j < n → ops[j]? = some oj → ∀ e ∈ oj.after, Region.binds md e = true → e.on < j
  apart : ∀ i j, i < n → j < n → i ≠ j → ∀ d, dstOf ops i = some d → dstOf ops j ≠ some d
  look : ∀ i j, i < n → j < n → ∀ d oj, dstOf ops i = some d → ops[j]? = some oj → d ∈ oj.looksAt ops → i < j ∧ Region.waitsFor md ops j i = true
theorem kindB_facts {n : Nat} (h : kindB md ops n = true) : KindFacts md ops n := by
  simp only [kindB, Bool.and_eq_true, decide_eq_true_eq] at h
  obtain ⟨⟨⟨h1, h2⟩, h3⟩, h4⟩ := h
  refine ⟨h1, h2, fun j oj hj ho e he hb => ?_, fun i j hi hj hne d hd hd2 => ?_, fun i j hi hj d oj hd ho hl => ?_⟩
  · have := List.all_eq_true.1 h3 j (List.mem_range.2 hj)
    simp only [ho, Array.all_eq_true_iff_forall_mem] at this
    have := this e he
    simp only [hb, Bool.not_true, Bool.false_or, decide_eq_true_eq] at this
    exact this
  · have hlt : j < ops.size := by omega
    have := List.all_eq_true.1 (List.all_eq_true.1 h4 j (List.mem_range.2 hj)) i (List.mem_range.2 hi)
    have ho : ops[j]? = some ops[j] := Array.getElem?_eq_getElem hlt
    rw [dstOf_some ho] at hd2
    simp only [hd, ho, Bool.and_eq_true, Bool.or_eq_true, beq_iff_eq, bne_iff_ne] at this
    rcases this.1 with h | h
    · exact hne h
    · exact h hd2
  · have := List.all_eq_true.1 (List.all_eq_true.1 h4 j (List.mem_range.2 hj)) i (List.mem_range.2 hi)
    simp only [hd, ho, Bool.and_eq_true, Bool.or_eq_true, Bool.not_eq_true', decide_eq_true_eq] at this
    rcases this.2 with h | h
    · rw [List.contains_eq_mem, decide_eq_false_iff_not] at h
      exact absurd hl h
    · exact h
theorem lexFrame_at {n : Nat} (hF : KindFacts md ops n) (a0 : Act) (u : Nat → Value) : ∀ k, k ≤ n → FrameAt ops a0 u (· < k) (lexFrame ops a0 u k)
  | 0, _ => FrameAt.nil fun i hi => by omega
  | k + 1, hk => (lexFrame_at hF a0 u k (by omega)).put k (fun i hi d hd => fun e => hF.apart i k (by omega) (by omega) (by omega) d e hd) (fun i => by omega)

theorem wanted_congr {o : Oper} {t t' : Array Value} (h : ∀ d, d ∈ o.looksAt ops → t[d]? = t'[d]?) : Region.wanted o (yielded ops t) = Region.wanted o (yielded ops t') := by
  unfold Region.wanted
  cases hg : o.guard with
  | none => rfl
  | some gw =>
    obtain ⟨g, want⟩ := gw
    have hy : yielded ops t g = yielded ops t' g := by
      unfold yielded
      cases ht : (ops[g]?).bind (·.dst) with
      | none => rfl
      | some d =>
        have := h d (by simp [Oper.looksAt, hg, ht])
        simp only [Option.bind_some, this]
    simp only [hy]
theorem exec_congr {o : Oper} (hs : ∀ cs b, o.op ≠ .select cs b) {a b : Act} (h : ∀ d, d ∈ o.looksAt ops → a.tmps[d]? = b.tmps[d]?) : execOp a.eval o = execOp b.eval o :=
  execOp_congr o hs fun x hx => by
    cases x with
    | tmp d =>
      have := h d (List.mem_append_left _ (List.mem_filterMap.2 ⟨.tmp d, by simpa using hx, rfl⟩))
      simp only [Act.eval, Array.getD_eq_getD_getElem?, this]
    | _ => rfl

def upd (u : Nat → Value) (j : Nat) (v : Value) : Nat → Value := fun i => if i = j then v else u i
theorem upd_same (u : Nat → Value) (j : Nat) (v : Value) : upd u j v j = v := if_pos rfl
theorem upd_ne (u : Nat → Value) {i j : Nat} (v : Value) (h : i ≠ j) : upd u j v i = u i := if_neg h

/-- What is asked of operation number j. -/
def KindOp (P : Program) (ops : Array Oper) (n : Nat) (w0 : World) (φ : Nat → Kind) (A : (Nat → Value) → Act) (j : Nat) (o : Oper) : Prop :=
  ∀ (u : Nat → Value) (w : World), Ext w0 w → (∀ i, i < n → depB ops o i = true → φ i w (u i)) →
    if Region.wanted o (yielded ops (A u).tmps) then kindAt P o (A u) w (φ j) else φ j w undef

theorem listed_count (n : Nat) (L : Array Bool) : ∀ m, m ≤ n → (∀ i, i < m → L.getD i true = true) ∨ ∃ i, i < m ∧ L.getD i true = false ∧ ∀ k, k < i → L.getD k true = true
  | 0, _ => .inl fun i hi => by omega
  | m + 1, hm => by
    rcases listed_count n L m (by omega) with h | ⟨i, hi, h1, h2⟩
    · cases hL : L.getD m true with
      | true =>
        left
        intro i hi
        rcases Nat.lt_or_ge i m with h' | h'
        · exact h i h'
        · rw [show i = m by omega]; exact hL
      | false => exact .inr ⟨m, by omega, hL, h⟩
    · exact .inr ⟨i, by omega, h1, h2⟩

def unl (L : Array Bool) : Nat → Nat
  | 0 => 0
  | m + 1 => unl L m + if L.getD m true then 0 else 1
theorem unl_set (L : Array Bool) (j : Nat) (hj : L.getD j true = false) : ∀ n, (j < n → unl L n = unl (L.setIfInBounds j true) n + 1) ∧ (n ≤ j → unl L n = unl (L.setIfInBounds j true) n)
  | 0 => ⟨fun h => by omega, fun _ => rfl⟩
  | m + 1 => by
    obtain ⟨h1, h2⟩ := unl_set L j hj m
    have hjs : j < L.size := by
      rcases Nat.lt_or_ge j L.size with h | h
      · exact h
      · simp [Array.getElem?_eq_none h] at hj
    refine ⟨fun h => ?_, fun h => ?_⟩
    · by_cases e : j = m
      · subst e
        rw [unl, unl, h2 (Nat.le_refl _), hj]
        have : (L.setIfInBounds j true).getD j true = true := by simp [hjs]
        rw [this]; rfl
      · rw [unl, unl, h1 (by omega), getD_set_ne true e]; omega
    · rw [unl, unl, h2 (by omega), getD_set_ne true (by omega)]
theorem unl_zero (L : Array Bool) : ∀ n, unl L n = 0 → ∀ i, i < n → L.getD i true = true
  | 0, _, i, hi => by omega
  | m + 1, h, i, hi => by
    rw [unl] at h
    rcases Nat.lt_or_ge i m with h' | h'
    · exact unl_zero L m (by omega) i h'
    · rw [show i = m by omega]
      cases hL : L.getD m true with
      | true => rfl
      | false => rw [hL] at h; simp at h
theorem unl_new (k : Nat) : ∀ n, n ≤ k → unl (Array.replicate k false) n = n
  | 0, _ => rfl
  | m + 1, h => by
    rw [unl, unl_new k m (by omega)]
    simp [show m < k by omega]

/-- the listed of the head -/
def headL (ops : Array Oper) (n : Nat) : Array Bool := (Array.range ops.size).map fun i => decide (i < n)
def tailB (md : Region.Mode) (ops : Array Oper) (n : Nat) : Bool :=
  (n == ops.size || (Region.sinkB md ops n && Region.chainB md ops n)) && Region.seqB md ops (ops.size - n) n (headL ops n)

theorem kinds_any {n : Nat} {φ : Nat → Kind} {a0 : Act} {w0 : World} {Q : Exit → Act → World → Prop} (hF : KindFacts md ops n) (hT : tailB md ops n = true)
    (hst : ∀ i, i < n → (φ i).Stable)
    (hops : ∀ j o, j < n → ops[j]? = some o → KindOp P ops n w0 φ (fun u => lexFrame ops a0 u j) j o)
    (hend : ∀ (u : Nat → Value) (w : World), Ext w0 w → (∀ i, i < n → φ i w (u i)) → wpAny P md ops Q (ops.size - n) (headL ops n) (lexFrame ops a0 u n) w) :
    ∀ (m : Nat) (L : Array Bool) (u : Nat → Value) (a : Act) (w : World), unl L n = m → HeadInv md ops n L → FrameAt ops a0 u (fun i => i < n ∧ L.getD i false = true) a →
      Ext w0 w → (∀ i, i < n → L.getD i false = true → φ i w (u i)) → wpAny P md ops Q (m + (ops.size - n)) L a w := by
  simp only [tailB, Bool.and_eq_true, Bool.or_eq_true, beq_iff_eq] at hT
  obtain ⟨hT1, hT2⟩ := hT
  intro m
  induction m with
  | zero =>
    intro L u a w hm inv hf hw hφ
    have hall := unl_zero L n hm
    have hle := hF.le
    have hL : L = headL ops n := by
      apply Array.ext
      · rw [inv.size]; simp [headL]
      · intro i h1 h2
        by_cases hin : i < n
        · have := hall i hin
          simp [h1] at this
          simp [headL, hin, this]
        · have := inv.tail i (by omega) (by rw [← inv.size]; exact h1)
          simp [h1] at this
          simp [headL, hin, this]
    have ht : ∀ i, i < n → L.getD i false = true := fun i hi => by
      have h1 := hall i hi
      have : i < L.size := by rw [inv.size]; omega
      simp [this] at h1 ⊢
      exact h1
    have ha : a = lexFrame ops a0 u n := hf.eq (lexFrame_at hF a0 u n (Nat.le_refl _)) fun i => ⟨fun h => h.1, fun h => ⟨h, ht i h⟩⟩
    rw [Nat.zero_add, ha, hL]
    exact hend u w hw fun i hi => hφ i hi (ht i hi)
  | succ m ih =>
    intro L u a w hm inv hf hw hφ
    have hle := hF.le
    obtain ⟨i0, hi0, hu0, hlow⟩ : ∃ i, i < n ∧ L.getD i true = false ∧ ∀ k, k < i → L.getD k true = true := by
      rcases listed_count n L n (Nat.le_refl _) with h | h
      · exfalso
        have : ∀ k, k ≤ n → unl L k = 0 := by
          intro k
          induction k with
          | zero => intro _; rfl
          | succ k ihk => intro hk; rw [unl, ihk (by omega), h k (by omega)]; rfl
        rw [this n (Nat.le_refl _)] at hm
        omega
      · exact h
    have hready : i0 ∈ Region.ready md ops L := by
      have ho : ops[i0]? = some ops[i0] := Array.getElem?_eq_getElem (by omega)
      refine mem_ready.2 ⟨hu0, _, ho, fun e he hb => ?_⟩
      have h1 := hF.edge i0 _ hi0 ho e he hb
      have h2 := hlow e.on h1
      have : e.on < L.size := by rw [inv.size]; omega
      simp [this] at h2 ⊢
      exact h2
    rw [show m + 1 + (ops.size - n) = (m + (ops.size - n)) + 1 by omega]
    refine ⟨fun h0 => (by rw [h0] at hready; cases hready), fun j hj => ?_⟩
    have hjn : j < n := by
      obtain ⟨_, oj, hoj, _⟩ := mem_ready.1 hj
      have hjs := (Array.getElem?_eq_some_iff.1 hoj).1
      rcases hT1 with h | h
      · omega
      · rcases Nat.lt_or_ge j n with h' | h'
        · exact h'
        · exact absurd hj (tail_waits h.1 h.2 (by omega) inv _ i0 rfl hi0 hu0 j h')
    obtain ⟨hjun, oj, hoj, hall⟩ := mem_ready.1 hj
    have hwait : ∀ i, Region.waitsFor md ops j i = true → L.getD i false = true := fun i hi => by
      obtain ⟨o', ho', e, he, hb, hon⟩ := Region.waitsFor_spec hi
      have : o' = oj := Option.some.inj (ho'.symm.trans hoj)
      subst this
      rw [← hon]
      exact hall e he hb
    have hlex := lexFrame_at hF a0 u j (by omega)
    have hsame : ∀ d, d ∈ oj.looksAt ops → a.tmps[d]? = (lexFrame ops a0 u j).tmps[d]? := fun d hd => by
      by_cases hx : ∃ i, i < n ∧ dstOf ops i = some d
      · obtain ⟨i, hi, hid⟩ := hx
        have h1 := hF.look i j hi hjn d oj hid hoj hd
        have h2 := hwait i h1.2
        rw [hf.new i d ⟨hi, h2⟩ hid, hlex.new i d h1.1 hid]
      · rw [hf.old d fun i hi hid => hx ⟨i, hi.1, hid⟩, hlex.old d fun i hi hid => hx ⟨i, by omega, hid⟩]
    have hsel := Region.noSelect_spec hF.sel j
    have hex : execOp a.eval oj = execOp (lexFrame ops a0 u j).eval oj := exec_congr (ops := ops) (fun cs b => hsel oj cs b hoj) hsame
    have hwa : Region.wanted oj (yielded ops a.tmps) = Region.wanted oj (yielded ops (lexFrame ops a0 u j).tmps) := wanted_congr hsame
    have hop := hops j oj hjn hoj u w hw fun i hi hd => by
      have hdep : ∃ d, dstOf ops i = some d ∧ d ∈ oj.looksAt ops := by
        unfold depB at hd
        split at hd
        · rename_i d hd'
          exact ⟨d, hd', by simpa using hd⟩
        · cases hd
      obtain ⟨d, hd1, hd2⟩ := hdep
      exact hφ i hi (hwait i (hF.look i j hi hjn d oj hd1 hoj hd2).2)
    have hnext : ∀ v w', Ext w w' → φ j w' v → wpAny P md ops Q (m + (ops.size - n)) (L.setIfInBounds j true) (a.put oj.dst v) w' := fun v w' hww hv => by
      have hj0 : ¬ L.getD j false = true := by rw [getD_both hjun]; simp
      have hu' := unl_set L j hjun n
      refine ih (L.setIfInBounds j true) (upd u j v) (a.put oj.dst v) w' (by have := hu'.1 hjn; omega) (inv.set hj hjn) ?_ (hw.trans hww) fun i hi hLi => ?_
      · have h1 : FrameAt ops a0 (upd u j v) (fun i => i < n ∧ L.getD i false = true) a := hf.congr fun i hi => by
          rw [upd_ne u v fun e => hj0 (by rw [← e]; exact hi.2)]
        have h2 := h1.put (T := fun i => i < n ∧ (L.setIfInBounds j true).getD i false = true) j (fun i hi d hd => fun e => hF.apart i j hi.1 hjn (fun e' => hj0 (by rw [← e']; exact hi.2)) d e hd) (fun i => by
          by_cases e : j = i
          · subst e
            have hjs : j < L.size := by rw [inv.size]; omega
            simp [hjs, hjn]
          · rw [getD_set_ne false e]
            constructor
            · exact fun h => .inl h
            · rintro (h | h)
              · exact h
              · exact absurd h.symm e)
        rw [upd_same, dstOf_some hoj] at h2
        exact h2
      · by_cases e : j = i
        · subst e; rw [upd_same]; exact hv
        · rw [getD_set_ne false e] at hLi
          rw [upd_ne u v (Ne.symm e)]
          exact hst i hi w w' _ hww (hφ i hi hLi)
    show wpOp P ops Q j _ a w
    unfold wpOp
    rw [hoj]
    simp only
    rw [hwa]
    split
    · rename_i hwt
      rw [if_pos hwt] at hop
      left
      refine wp_of_kindAt (φ := φ j) ?_ fun v w' h1 h2 => hnext v w' h1 h2
      unfold kindAt at hop ⊢
      rw [hex]
      exact hop
    · rename_i hwt
      rw [if_neg hwt] at hop
      exact hnext undef w (Ext.refl w) hop

/-- The asks of all operations of the head, one below another. -/
def KindOps (P : Program) (ops : Array Oper) (n : Nat) (w0 : World) (φ : Nat → Kind) : Nat → List Oper → ((Nat → Value) → Act) → Prop
  | _, [], _ => True
  | j, o :: rest, A => KindOp P ops n w0 φ A j o ∧ KindOps P ops n w0 φ (j + 1) rest fun u => (A u).put o.dst (u j)
theorem kindOps_at {n : Nat} {w0 : World} {φ : Nat → Kind} {a0 : Act} : ∀ (l : List Oper) (k : Nat), (∀ j, j < l.length → l[j]? = ops[k + j]?) → KindOps P ops n w0 φ k l (fun u => lexFrame ops a0 u k) →
    ∀ j o, j < l.length → ops[k + j]? = some o → KindOp P ops n w0 φ (fun u => lexFrame ops a0 u (k + j)) (k + j) o
  | [], _, _, _, j, o, hj, _ => by simp at hj
  | x :: r, k, hl, h, j, o, hj, ho => by
    have h0 : ops[k]? = some x := by simpa using (hl 0 (by simp)).symm
    cases j with
    | zero =>
      have : x = o := Option.some.inj (h0.symm.trans ho)
      subst this
      exact h.1
    | succ j =>
      have := kindOps_at (n := n) (w0 := w0) (φ := φ) (a0 := a0) r (k + 1) (fun i hi => by have := hl (i + 1) (by simp; omega); simpa [Nat.add_assoc, Nat.add_comm 1 i] using this)
        (by have h2 := h.2; simp only [lexFrame, dstOf_some h0]; exact h2) j o (by simp at hj; omega) (by rw [← ho]; congr 1; omega)
      rw [show k + (j + 1) = k + 1 + j by omega]
      exact this

theorem wp_region_kinds {id : Nat} {Q : Exit → Act → World → Prop} {a : Act} {w : World} {l : List Oper} (n : Nat) (φ : Nat → Kind) (hm : P.follows .mixedOrders = true)
    (hB : kindB .any l.toArray n = true) (hT : tailB .any l.toArray n = true) (hst : ∀ i, i < n → (φ i).Stable)
    (hops : KindOps P l.toArray n w.drew φ 0 (l.take n) (fun _ => a))
    (hend : ∀ (u : Nat → Value) (w' : World), Ext w.drew w' → (∀ i, i < n → φ i w' (u i)) → wpList P l.toArray Q (l.drop n) (lexFrame l.toArray a u n) w') :
    (Code.region id l.toArray true).wp P Q a w := by
  have hF := kindB_facts hB
  have hle : n ≤ l.length := by have := hF.le; simpa using this
  refine wp_region_any hm ?_
  have h0 : unl (Array.replicate l.toArray.size false) n = n := unl_new _ n hF.le
  have h1 := kinds_any (P := P) (md := .any) (Q := Q) (a0 := a) (w0 := w.drew) (φ := φ) hF hT hst (fun j o hj ho => by
      have := kindOps_at (P := P) (ops := l.toArray) (n := n) (w0 := w.drew) (φ := φ) (a0 := a) (l.take n) 0 (fun i hi => by
        have : i < n := by rw [List.length_take] at hi; omega
        simp [List.getElem?_take_of_lt this]) hops j o (by rw [List.length_take]; omega) (by rw [Nat.zero_add]; exact ho)
      rw [Nat.zero_add] at this
      exact this)
    (fun u w' hw hφ => by
      have hT' := hT
      simp only [tailB, Bool.and_eq_true] at hT'
      have := wpAny_of_seq (P := P) (md := .any) (ops := l.toArray) (Q' := Q) (l.drop n) n (headL l.toArray n) (lexFrame l.toArray a u n) w' (fun j => by simp [List.getElem?_drop]) (by rw [List.length_drop]; exact hT'.2) (hend u w' hw hφ)
      rw [List.length_drop] at this
      exact this)
    n (Array.replicate l.toArray.size false) (fun _ => undef) a w.drew h0
    ⟨by simp, (fun j oj _ hl => by rw [getD_replicate_false] at hl; cases hl), (fun t ht htl => by simp at htl; simp [htl])⟩
    (FrameAt.nil (fun i hi => by rw [getD_replicate_false] at hi; exact absurd hi.2 (by decide))) (Ext.refl _) (fun i _ hi => by rw [getD_replicate_false] at hi; cases hi)
  have e : n + (l.toArray.size - n) = l.toArray.size := by have := hF.le; omega
  rw [e] at h1
  exact h1
end
end Go.Proofs.YtpogffdbencfnaaGreatDoor

namespace Go.Proofs.YtpogffdbencfnaaGreatDoor
open Go Go.RowKit

/-! Regions that draw their order, by kinds with footprints: an operation may write into the blocks of what it uses up. -/
/-- the blocks of C alone, and new ones, differ -/
structure Fr (C : Nat → Prop) (w w' : World) : Prop where
  os : w'.os = w.os
  tape : w'.tape = w.tape
  output : w'.output = w.output
  size : w.heap.size ≤ w'.heap.size
  block : ∀ b, b < w.heap.size → ¬ C b → w'.heap[b]? = w.heap[b]?
theorem Fr.of_ext {C : Nat → Prop} {w w' : World} (h : Ext w w') : Fr C w w' := ⟨h.os, h.tape, h.output, h.size, fun b hb _ => h.block b hb⟩
theorem Fr.below {C : Nat → Prop} {w w' : World} (h : Fr C w w') {B : Nat} (hB : B ≤ w.heap.size) (hC : ∀ b, C b → B ≤ b) : Below B w w' :=
  ⟨h.os, h.tape, h.output, h.size, fun b hb => h.block b (by omega) fun hc => by have := hC b hc; omega⟩
/-- What is known of a value, and the blocks that it owns. -/
structure FKind where
  φ : World → Value → Prop
  fp : Value → Nat → Prop
def FKind.Stable (B : Nat) (κ : FKind) : Prop := ∀ w w' v, Below B w w' → (∀ b, κ.fp v b → w'.heap[b]? = w.heap[b]?) → κ.φ w v → κ.φ w' v
def valF (c : Value) : FKind := ⟨fun _ v => v = c, fun _ _ => False⟩
theorem valF_stable (B : Nat) (c : Value) : FKind.Stable B (valF c) := fun _ _ _ _ _ h => h
def anyF : FKind := ⟨fun _ _ => True, fun _ _ => False⟩
theorem anyF_stable (B : Nat) : FKind.Stable B anyF := fun _ _ _ _ _ h => h

/-- the outcome of operation j: C are the blocks that it may write -/
def FOut (B : Nat) (C : Nat → Prop) (κ : FKind) (w w' : World) (v : Value) : Prop :=
  Fr C w w' ∧ κ.φ w' v ∧ ∀ b, κ.fp v b → (w.heap.size ≤ b ∨ C b) ∧ b < w'.heap.size
def fkindUpon (P : Program) (B : Nat) (C : Nat → Prop) (κ : FKind) (w : World) : Result Next → Prop
  | .ok (.value u) w' => FOut B C κ w w' u
  | .ok .skip w' => FOut B C κ w w' undef
  | .ok (.enter f args) w' => Calls P f args w' (fun e w'' => ∃ v, e = .returned v ∧ FOut B C κ w w'' v)
  | _ => False
def fkindAt (P : Program) (o : Oper) (a : Act) (w : World) (B : Nat) (C : Nat → Prop) (κ : FKind) : Prop := fkindUpon P B C κ w ((execOp a.eval o).run P w)

section
variable {P : Program} {ops : Array Oper} {md : Region.Mode}
theorem wp_of_fkindAt {o : Oper} {a : Act} {w : World} {B : Nat} {C : Nat → Prop} {κ : FKind} {K : Act → World → Prop} {Q : Exit → Act → World → Prop} (h : fkindAt P o a w B C κ)
    (hK : ∀ v w', FOut B C κ w w' v → K (a.put o.dst v) w') : o.wp P a w K Q := by
  unfold fkindAt at h
  unfold Oper.wp
  generalize (execOp a.eval o).run P w = r at *
  cases r with
  | ok n w' =>
    cases n <;> simp only [fkindUpon] at h <;> simp only [Oper.upon]
    case value u => exact hK _ _ h
    case skip => exact hK _ _ h
    case enter f args => exact h.mono fun e w'' ⟨v, he, h1⟩ => by subst he; exact hK _ _ h1
  | halt x w' => simp only [fkindUpon] at h
theorem fkindUpon_value {B : Nat} {C : Nat → Prop} {κ : FKind} {w w' : World} {u : Value} : fkindUpon P B C κ w (.ok (.value u) w') = FOut B C κ w w' u := rfl
theorem fkindUpon_skip {B : Nat} {C : Nat → Prop} {κ : FKind} {w w' : World} : fkindUpon P B C κ w (.ok .skip w') = FOut B C κ w w' undef := rfl
theorem fkindUpon_enter {B : Nat} {C : Nat → Prop} {κ : FKind} {w w' : World} {f : FuncId} {args : Array Value} : fkindUpon P B C κ w (.ok (.enter f args) w') = Calls P f args w' (fun e w'' => ∃ v, e = .returned v ∧ FOut B C κ w w'' v) := rfl
theorem FOut.val {B : Nat} {C : Nat → Prop} {w : World} {c v : Value} (h : v = c) : FOut B C (valF c) w w v := ⟨Fr.of_ext (Ext.refl w), h, fun _ hf => hf.elim⟩
theorem FOut.any {B : Nat} {C : Nat → Prop} {w : World} {v : Value} : FOut B C anyF w w v := ⟨Fr.of_ext (Ext.refl w), trivial, fun _ hf => hf.elim⟩
theorem FOut.valExt {B : Nat} {C : Nat → Prop} {w w' : World} {c v : Value} (he : Ext w w') (h : v = c) : FOut B C (valF c) w w' v := ⟨Fr.of_ext he, h, fun _ hf => hf.elim⟩

/-- who uses up what: cons j i: operation j uses up the value of operation i -/
def consB (md : Region.Mode) (ops : Array Oper) (n : Nat) (cons : Nat → Nat → Bool) : Bool :=
  (List.range n).all fun j => (List.range n).all fun i => !cons j i || (Region.waitsFor md ops j i && (List.range n).all fun k =>
    (k == j || (!cons k i && (match ops[k]? with
      | some ok => !depB ops ok i || Region.waitsFor md ops j k
      | none => true))))
structure ConsFacts (md : Region.Mode) (ops : Array Oper) (n : Nat) (cons : Nat → Nat → Bool) : Prop where
  wait : ∀ i j, i < n → j < n → cons j i = true → Region.waitsFor md ops j i = true
  one : ∀ i j k, i < n → j < n → k < n → cons j i = true → cons k i = true → k = j
  look : ∀ i j k ok, i < n → j < n → k < n → cons j i = true → k ≠ j → ops[k]? = some ok → depB ops ok i = true → Region.waitsFor md ops j k = true
theorem consB_facts {n : Nat} {cons : Nat → Nat → Bool} (h : consB md ops n cons = true) : ConsFacts md ops n cons := by
  have key : ∀ i j, i < n → j < n → cons j i = true → Region.waitsFor md ops j i = true ∧ ∀ k, k < n → (k = j ∨ (cons k i = false ∧ (∀ ok, ops[k]? = some ok → depB ops ok i = true → Region.waitsFor md ops j k = true))) := by
    intro i j hi hj hc
    have h1 := List.all_eq_true.1 (List.all_eq_true.1 h j (List.mem_range.2 hj)) i (List.mem_range.2 hi)
    simp only [hc, Bool.not_true, Bool.false_or, Bool.and_eq_true] at h1
    refine ⟨h1.1, fun k hk => ?_⟩
    have h2 := List.all_eq_true.1 h1.2 k (List.mem_range.2 hk)
    simp only [Bool.or_eq_true, beq_iff_eq, Bool.and_eq_true, Bool.not_eq_true'] at h2
    rcases h2 with h2 | ⟨h2, h3⟩
    · exact .inl h2
    · refine .inr ⟨h2, fun ok ho hd => ?_⟩
      simp only [ho, Bool.or_eq_true, Bool.not_eq_true'] at h3
      rcases h3 with h3 | h3
      · rw [hd] at h3; cases h3
      · exact h3
  refine ⟨fun i j hi hj hc => (key i j hi hj hc).1, fun i j k hi hj hk hc hc2 => ?_, fun i j k ok hi hj hk hc hne ho hd => ?_⟩
  · rcases (key i j hi hj hc).2 k hk with h | h
    · exact h
    · rw [h.1] at hc2; cases hc2
  · rcases (key i j hi hj hc).2 k hk with h | h
    · exact absurd h hne
    · exact h.2 ok ho hd

/-- What is asked of operation number j. -/
def FKindOp (P : Program) (ops : Array Oper) (n : Nat) (B : Nat) (w0 : World) (κ : Nat → FKind) (cons : Nat → Nat → Bool) (A : (Nat → Value) → Act) (j : Nat) (o : Oper) : Prop :=
  ∀ (u : Nat → Value) (w : World), Below B w0 w → B ≤ w.heap.size → (∀ i, i < n → depB ops o i = true → (κ i).φ w (u i)) →
    if Region.wanted o (yielded ops (A u).tmps) then fkindAt P o (A u) w B (fun b => ∃ i, i < n ∧ cons j i = true ∧ (κ i).fp (u i) b) (κ j) else (κ j).φ w undef ∧ ∀ b, ¬ (κ j).fp undef b

theorem fkinds_any {n : Nat} {κ : Nat → FKind} {cons : Nat → Nat → Bool} {a0 : Act} {B : Nat} {w0 : World} {Q : Exit → Act → World → Prop} (hF : KindFacts md ops n) (hCo : ConsFacts md ops n cons) (hT : tailB md ops n = true)
    (hst : ∀ i, i < n → (κ i).Stable B)
    (hops : ∀ j o, j < n → ops[j]? = some o → FKindOp P ops n B w0 κ cons (fun u => lexFrame ops a0 u j) j o)
    (hend : ∀ (u : Nat → Value) (w : World), Below B w0 w → (∀ i, i < n → (∀ j, j < n → cons j i = false) → (κ i).φ w (u i)) → wpAny P md ops Q (ops.size - n) (headL ops n) (lexFrame ops a0 u n) w) :
    ∀ (m : Nat) (L : Array Bool) (u : Nat → Value) (a : Act) (w : World), unl L n = m → HeadInv md ops n L → FrameAt ops a0 u (fun i => i < n ∧ L.getD i false = true) a →
      Below B w0 w → B ≤ w.heap.size →
      (∀ i, i < n → L.getD i false = true → (∀ j, j < n → L.getD j false = true → cons j i = false) → (κ i).φ w (u i) ∧ ∀ b, (κ i).fp (u i) b → B ≤ b ∧ b < w.heap.size) →
      (∀ i k, i < n → k < n → i ≠ k → L.getD i false = true → L.getD k false = true → (∀ j, j < n → L.getD j false = true → cons j i = false) → (∀ j, j < n → L.getD j false = true → cons j k = false) → ∀ b, (κ i).fp (u i) b → ¬ (κ k).fp (u k) b) →
      wpAny P md ops Q (m + (ops.size - n)) L a w := by
  simp only [tailB, Bool.and_eq_true, Bool.or_eq_true, beq_iff_eq] at hT
  obtain ⟨hT1, hT2⟩ := hT
  intro m
  induction m with
  | zero =>
    intro L u a w hm inv hf hw hBw hφ hdis
    have hall := unl_zero L n hm
    have hle := hF.le
    have hL : L = headL ops n := by
      apply Array.ext
      · rw [inv.size]; simp [headL]
      · intro i h1 h2
        by_cases hin : i < n
        · have := hall i hin
          simp [h1] at this
          simp [headL, hin, this]
        · have := inv.tail i (by omega) (by rw [← inv.size]; exact h1)
          simp [h1] at this
          simp [headL, hin, this]
    have ht : ∀ i, i < n → L.getD i false = true := fun i hi => by
      have h1 := hall i hi
      have : i < L.size := by rw [inv.size]; omega
      simp [this] at h1 ⊢
      exact h1
    have ha : a = lexFrame ops a0 u n := hf.eq (lexFrame_at hF a0 u n (Nat.le_refl _)) fun i => ⟨fun h => h.1, fun h => ⟨h, ht i h⟩⟩
    rw [Nat.zero_add, ha, hL]
    exact hend u w hw fun i hi hc => (hφ i hi (ht i hi) fun j hj _ => hc j hj).1
  | succ m ih =>
    intro L u a w hm inv hf hw hBw hφ hdis
    have hle := hF.le
    obtain ⟨i0, hi0, hu0, hlow⟩ : ∃ i, i < n ∧ L.getD i true = false ∧ ∀ k, k < i → L.getD k true = true := by
      rcases listed_count n L n (Nat.le_refl _) with h | h
      · exfalso
        have : ∀ k, k ≤ n → unl L k = 0 := by
          intro k
          induction k with
          | zero => intro _; rfl
          | succ k ihk => intro hk; rw [unl, ihk (by omega), h k (by omega)]; rfl
        rw [this n (Nat.le_refl _)] at hm
        omega
      · exact h
    have hready : i0 ∈ Region.ready md ops L := by
      have ho : ops[i0]? = some ops[i0] := Array.getElem?_eq_getElem (by omega)
      refine mem_ready.2 ⟨hu0, _, ho, fun e he hb => ?_⟩
      have h1 := hF.edge i0 _ hi0 ho e he hb
      have h2 := hlow e.on h1
      have : e.on < L.size := by rw [inv.size]; omega
      simp [this] at h2 ⊢
      exact h2
    rw [show m + 1 + (ops.size - n) = (m + (ops.size - n)) + 1 by omega]
    refine ⟨fun h0 => (by rw [h0] at hready; cases hready), fun j hj => ?_⟩
    have hjn : j < n := by
      obtain ⟨_, oj, hoj, _⟩ := mem_ready.1 hj
      have hjs := (Array.getElem?_eq_some_iff.1 hoj).1
      rcases hT1 with h | h
      · omega
      · rcases Nat.lt_or_ge j n with h' | h'
        · exact h'
        · exact absurd hj (tail_waits h.1 h.2 (by omega) inv _ i0 rfl hi0 hu0 j h')
    obtain ⟨hjun, oj, hoj, hall⟩ := mem_ready.1 hj
    have hj0 : ¬ L.getD j false = true := by rw [getD_both hjun]; simp
    have hwait : ∀ i, Region.waitsFor md ops j i = true → L.getD i false = true := fun i hi => by
      obtain ⟨o', ho', e, he, hb, hon⟩ := Region.waitsFor_spec hi
      have : o' = oj := Option.some.inj (ho'.symm.trans hoj)
      subst this
      rw [← hon]
      exact hall e he hb
    have hclosed : ∀ k i, L.getD k false = true → Region.waitsFor md ops k i = true → L.getD i false = true := fun k i hk hi => by
      obtain ⟨o', ho', e, he, hb, hon⟩ := Region.waitsFor_spec hi
      rw [← hon]
      exact inv.closed k o' ho' hk e he hb
    have hlex := lexFrame_at hF a0 u j (by omega)
    have hsame : ∀ d, d ∈ oj.looksAt ops → a.tmps[d]? = (lexFrame ops a0 u j).tmps[d]? := fun d hd => by
      by_cases hx : ∃ i, i < n ∧ dstOf ops i = some d
      · obtain ⟨i, hi, hid⟩ := hx
        have h1 := hF.look i j hi hjn d oj hid hoj hd
        have h2 := hwait i h1.2
        rw [hf.new i d ⟨hi, h2⟩ hid, hlex.new i d h1.1 hid]
      · rw [hf.old d fun i hi hid => hx ⟨i, hi.1, hid⟩, hlex.old d fun i hi hid => hx ⟨i, by omega, hid⟩]
    have hsel := Region.noSelect_spec hF.sel j
    have hex : execOp a.eval oj = execOp (lexFrame ops a0 u j).eval oj := exec_congr (ops := ops) (fun cs b => hsel oj cs b hoj) hsame
    have hwa : Region.wanted oj (yielded ops a.tmps) = Region.wanted oj (yielded ops (lexFrame ops a0 u j).tmps) := wanted_congr hsame
    have hlive : ∀ i, i < n → depB ops oj i = true → ∀ k, k < n → L.getD k false = true → cons k i = false := fun i hi hd k hk hLk => by
      cases hc : cons k i with
      | false => rfl
      | true =>
        exfalso
        by_cases e : j = k
        · subst e; exact hj0 hLk
        · exact hj0 (hclosed k j hLk (hCo.look i k j oj hi hk hjn hc e hoj hd))
    have hop := hops j oj hjn hoj u w hw hBw fun i hi hd => by
      have hdep : ∃ d, dstOf ops i = some d ∧ d ∈ oj.looksAt ops := by
        have hd' := hd
        unfold depB at hd'
        split at hd'
        · rename_i d hd''
          exact ⟨d, hd'', by simpa using hd'⟩
        · cases hd'
      obtain ⟨d, hd1, hd2⟩ := hdep
      exact (hφ i hi (hwait i (hF.look i j hi hjn d oj hd1 hoj hd2).2) (hlive i hi hd)).1
    have hcl : ∀ i, i < n → cons j i = true → L.getD i false = true ∧ ∀ k, k < n → L.getD k false = true → cons k i = false := fun i hi hc => by
      refine ⟨hwait i (hCo.wait i j hi hjn hc), fun k hk hLk => ?_⟩
      cases hck : cons k i with
      | false => rfl
      | true => have := hCo.one i j k hi hjn hk hc hck; subst this; exact absurd hLk hj0
    have hnext : ∀ v w', FOut B (fun b => ∃ i, i < n ∧ cons j i = true ∧ (κ i).fp (u i) b) (κ j) w w' v → wpAny P md ops Q (m + (ops.size - n)) (L.setIfInBounds j true) (a.put oj.dst v) w' := fun v w' hv => by
      obtain ⟨hfr, hvφ, hvf⟩ := hv
      have hu' := unl_set L j hjun n
      have hCB : ∀ b, (∃ i, i < n ∧ cons j i = true ∧ (κ i).fp (u i) b) → B ≤ b := fun b ⟨i, hi, hc, hf⟩ => by
        have h1 := hcl i hi hc
        exact ((hφ i hi h1.1 h1.2).2 b hf).1
      have hbel : Below B w w' := hfr.below hBw hCB
      have hLne : ∀ i, i ≠ j → (L.setIfInBounds j true).getD i false = L.getD i false := fun i hne => getD_set_ne false (Ne.symm hne)
      have hjs : j < L.size := by rw [inv.size]; omega
      have hLj : (L.setIfInBounds j true).getD j false = true := by simp [hjs]
      have hold : ∀ i, i < n → i ≠ j → (L.setIfInBounds j true).getD i false = true → (∀ k, k < n → (L.setIfInBounds j true).getD k false = true → cons k i = false) →
          L.getD i false = true ∧ (∀ k, k < n → L.getD k false = true → cons k i = false) ∧ cons j i = false := fun i hi hne hLi hc => by
        refine ⟨by rw [← hLne i hne]; exact hLi, fun k hk hLk => hc k hk ?_, hc j hjn hLj⟩
        by_cases e : k = j
        · subst e; exact hLj
        · rw [hLne k e]; exact hLk
      refine ih (L.setIfInBounds j true) (upd u j v) (a.put oj.dst v) w' (by have := hu'.1 hjn; omega) (inv.set hj hjn) ?_ (hw.trans hbel) (Nat.le_trans hBw hfr.size) (fun i hi hLi hc => ?_) (fun i k hi hk hik hLi hLk hci hck b hbi hbk => ?_)
      · have h1 : FrameAt ops a0 (upd u j v) (fun i => i < n ∧ L.getD i false = true) a := hf.congr fun i hi => by
          rw [upd_ne u v fun e => hj0 (by rw [← e]; exact hi.2)]
        have h2 := h1.put (T := fun i => i < n ∧ (L.setIfInBounds j true).getD i false = true) j (fun i hi d hd => fun e => hF.apart i j hi.1 hjn (fun e' => hj0 (by rw [← e']; exact hi.2)) d e hd) (fun i => by
          by_cases e : j = i
          · subst e
            simp [hjs, hjn]
          · rw [getD_set_ne false e]
            constructor
            · exact fun h => .inl h
            · rintro (h | h)
              · exact h
              · exact absurd h.symm e)
        rw [upd_same, dstOf_some hoj] at h2
        exact h2
      · by_cases e : i = j
        · subst e
          rw [upd_same]
          refine ⟨hvφ, fun b hb => ⟨?_, (hvf b hb).2⟩⟩
          rcases (hvf b hb).1 with h | h
          · omega
          · exact hCB b h
        · rw [upd_ne u v e]
          obtain ⟨h1, h2, h3⟩ := hold i hi e hLi hc
          have h4 := hφ i hi h1 h2
          refine ⟨hst i hi w w' _ hbel (fun b hb => ?_) h4.1, fun b hb => ⟨(h4.2 b hb).1, Nat.lt_of_lt_of_le (h4.2 b hb).2 hfr.size⟩⟩
          refine hfr.block b (h4.2 b hb).2 fun ⟨i', hi', hc', hf'⟩ => ?_
          have h5 := hcl i' hi' hc'
          exact hdis i i' hi hi' (fun e => by subst e; rw [h3] at hc'; cases hc') h1 h5.1 h2 h5.2 b hb hf'
      · by_cases ei : i = j
        · subst ei
          have ek : k ≠ i := Ne.symm hik
          rw [upd_same] at hbi
          rw [upd_ne u v ek] at hbk
          obtain ⟨h1, h2, h3⟩ := hold k hk ek hLk hck
          have h4 := hφ k hk h1 h2
          rcases (hvf b hbi).1 with h | ⟨i', hi', hc', hf'⟩
          · have := (h4.2 b hbk).2; omega
          · have h5 := hcl i' hi' hc'
            exact hdis i' k hi' hk (fun e => by subst e; rw [h3] at hc'; cases hc') h5.1 h1 h5.2 h2 b hf' hbk
        · by_cases ek : k = j
          · subst ek
            rw [upd_same] at hbk
            rw [upd_ne u v ei] at hbi
            obtain ⟨h1, h2, h3⟩ := hold i hi ei hLi hci
            have h4 := hφ i hi h1 h2
            rcases (hvf b hbk).1 with h | ⟨i', hi', hc', hf'⟩
            · have := (h4.2 b hbi).2; omega
            · have h5 := hcl i' hi' hc'
              exact hdis i' i hi' hi (fun e => by subst e; rw [h3] at hc'; cases hc') h5.1 h1 h5.2 h2 b hf' hbi
          · rw [upd_ne u v ei] at hbi
            rw [upd_ne u v ek] at hbk
            obtain ⟨h1, h2, _⟩ := hold i hi ei hLi hci
            obtain ⟨h3, h4, _⟩ := hold k hk ek hLk hck
            exact hdis i k hi hk hik h1 h3 h2 h4 b hbi hbk
    show wpOp P ops Q j _ a w
    unfold wpOp
    rw [hoj]
    simp only
    rw [hwa]
    split
    · rename_i hwt
      rw [if_pos hwt] at hop
      left
      refine wp_of_fkindAt (κ := κ j) ?_ fun v w' h1 => hnext v w' h1
      unfold fkindAt at hop ⊢
      rw [hex]
      exact hop
    · rename_i hwt
      rw [if_neg hwt] at hop
      exact hnext undef w ⟨Fr.of_ext (Ext.refl w), hop.1, fun b hb => absurd hb (hop.2 b)⟩
/-- The asks of all operations of the head, one below another. -/
def FKindOps (P : Program) (ops : Array Oper) (n : Nat) (B : Nat) (w0 : World) (κ : Nat → FKind) (cons : Nat → Nat → Bool) : Nat → List Oper → ((Nat → Value) → Act) → Prop
  | _, [], _ => True
  | j, o :: rest, A => FKindOp P ops n B w0 κ cons A j o ∧ FKindOps P ops n B w0 κ cons (j + 1) rest fun u => (A u).put o.dst (u j)
theorem fkindOps_at {n B : Nat} {w0 : World} {κ : Nat → FKind} {cons : Nat → Nat → Bool} {a0 : Act} : ∀ (l : List Oper) (k : Nat), (∀ j, j < l.length → l[j]? = ops[k + j]?) → FKindOps P ops n B w0 κ cons k l (fun u => lexFrame ops a0 u k) →
    ∀ j o, j < l.length → ops[k + j]? = some o → FKindOp P ops n B w0 κ cons (fun u => lexFrame ops a0 u (k + j)) (k + j) o
  | [], _, _, _, j, o, hj, _ => by simp at hj
  | x :: r, k, hl, h, j, o, hj, ho => by
    have h0 : ops[k]? = some x := by simpa using (hl 0 (by simp)).symm
    cases j with
    | zero =>
      have : x = o := Option.some.inj (h0.symm.trans ho)
      subst this
      exact h.1
    | succ j =>
      have := fkindOps_at (n := n) (B := B) (w0 := w0) (κ := κ) (cons := cons) (a0 := a0) r (k + 1) (fun i hi => by have := hl (i + 1) (by simp; omega); simpa [Nat.add_assoc, Nat.add_comm 1 i] using this)
        (by have h2 := h.2; simp only [lexFrame, dstOf_some h0]; exact h2) j o (by simp at hj; omega) (by rw [← ho]; congr 1; omega)
      rw [show k + (j + 1) = k + 1 + j by omega]
      exact this

theorem wp_region_fkinds {id : Nat} {Q : Exit → Act → World → Prop} {a : Act} {w : World} {l : List Oper} (n B : Nat) (κ : Nat → FKind) (cons : Nat → Nat → Bool) (hm : P.follows .mixedOrders = true)
    (hB : kindB .any l.toArray n = true) (hT : tailB .any l.toArray n = true) (hC : consB .any l.toArray n cons = true) (hBw : B ≤ w.heap.size) (hst : ∀ i, i < n → (κ i).Stable B)
    (hops : FKindOps P l.toArray n B w.drew κ cons 0 (l.take n) (fun _ => a))
    (hend : ∀ (u : Nat → Value) (w' : World), Below B w.drew w' → (∀ i, i < n → (∀ j, j < n → cons j i = false) → (κ i).φ w' (u i)) → wpList P l.toArray Q (l.drop n) (lexFrame l.toArray a u n) w') :
    (Code.region id l.toArray true).wp P Q a w := by
  have hF := kindB_facts hB
  have hle : n ≤ l.length := by have := hF.le; simpa using this
  refine wp_region_any hm ?_
  have h0 : unl (Array.replicate l.toArray.size false) n = n := unl_new _ n hF.le
  have h1 := fkinds_any (P := P) (md := .any) (Q := Q) (a0 := a) (B := B) (w0 := w.drew) (κ := κ) (cons := cons) hF (consB_facts hC) hT hst (fun j o hj ho => by
      have := fkindOps_at (P := P) (ops := l.toArray) (n := n) (B := B) (w0 := w.drew) (κ := κ) (cons := cons) (a0 := a) (l.take n) 0 (fun i hi => by
        have : i < n := by rw [List.length_take] at hi; omega
        simp [List.getElem?_take_of_lt this]) hops j o (by rw [List.length_take]; omega) (by rw [Nat.zero_add]; exact ho)
      rw [Nat.zero_add] at this
      exact this)
    (fun u w' hw hφ => by
      have hT' := hT
      simp only [tailB, Bool.and_eq_true] at hT'
      have := wpAny_of_seq (P := P) (md := .any) (ops := l.toArray) (Q' := Q) (l.drop n) n (headL l.toArray n) (lexFrame l.toArray a u n) w' (fun j => by simp [List.getElem?_drop]) (by rw [List.length_drop]; exact hT'.2) (hend u w' hw hφ)
      rw [List.length_drop] at this
      exact this)
    n (Array.replicate l.toArray.size false) (fun _ => undef) a w.drew h0
    ⟨by simp, (fun j oj _ hl => by rw [getD_replicate_false] at hl; cases hl), (fun t ht htl => by simp at htl; simp [htl])⟩
    (FrameAt.nil (fun i hi => by rw [getD_replicate_false] at hi; exact absurd hi.2 (by decide))) (Below.refl _ _) hBw (fun i _ hi => by rw [getD_replicate_false] at hi; cases hi) (fun i k _ _ _ hi => by rw [getD_replicate_false] at hi; cases hi)
  have e : n + (l.toArray.size - n) = l.toArray.size := by have := hF.le; omega
  rw [e] at h1
  exact h1
def lexPut (u : Nat → Value) : Nat → List Oper → Act → Act
  | _, [], a => a
  | k, o :: r, a => lexPut u (k + 1) r (a.put o.dst (u k))
theorem lexPut_frame (a0 : Act) (u : Nat → Value) : ∀ (l : List Oper) (k : Nat), (∀ j, j < l.length → l[j]? = ops[k + j]?) → lexFrame ops a0 u (k + l.length) = lexPut u k l (lexFrame ops a0 u k)
  | [], k, _ => rfl
  | o :: r, k, hl => by
    have h0 : ops[k]? = some o := by simpa using (hl 0 (by simp)).symm
    have := lexPut_frame a0 u r (k + 1) (fun i hi => by have := hl (i + 1) (by simp; omega); simpa [Nat.add_assoc, Nat.add_comm 1 i] using this)
    rw [List.length_cons, lexPut, ← dstOf_some h0]
    rw [show k + (r.length + 1) = k + 1 + r.length by omega, this]
    rfl
/-- The whole region is the head. -/
theorem wp_region_all {id : Nat} {Q : Exit → Act → World → Prop} {a : Act} {w : World} {l : List Oper} (B : Nat) (κ : Nat → FKind) (cons : Nat → Nat → Bool) (hm : P.follows .mixedOrders = true)
    (hB : kindB .any l.toArray l.length = true) (hT : tailB .any l.toArray l.length = true) (hC : consB .any l.toArray l.length cons = true) (hBw : B ≤ w.heap.size) (hst : ∀ i, i < l.length → (κ i).Stable B)
    (hops : FKindOps P l.toArray l.length B w.drew κ cons 0 l (fun _ => a))
    (hend : ∀ (u : Nat → Value) (w' : World), Below B w.drew w' → (∀ i, i < l.length → (∀ j, j < l.length → cons j i = false) → (κ i).φ w' (u i)) → Q .normal (lexPut u 0 l a) w') :
    (Code.region id l.toArray true).wp P Q a w :=
  wp_region_fkinds l.length B κ cons hm hB hT hC hBw hst (by rw [List.take_length]; exact hops) (fun u w' h1 h2 => by
    rw [List.drop_length]
    have := lexPut_frame (ops := l.toArray) a u l 0 (fun j hj => by simp)
    rw [Nat.zero_add] at this
    rw [this]
    exact hend u w' h1 h2)
theorem fk_run {o : Oper} {a : Act} {w : World} {B : Nat} {C : Nat → Prop} {c : Value} (h : (execOp a.eval o).run P w = .ok (.value c) w) : fkindAt P o a w B C (valF c) := by
  unfold fkindAt
  rw [h]
  exact (FOut.val (B := B) (C := C) (w := w) (c := c) (v := c) rfl : FOut B C (valF c) w w c)
theorem fk_pos {c : Bool} {A D : Prop} (h : c = true) (ha : A) : if c = true then A else D := by rw [if_pos h]; exact ha
theorem fk_neg {c : Bool} {A : Prop} {w : World} (h : c = false) : if c = true then A else (valF undef).φ w undef ∧ ∀ b, ¬ (valF undef).fp undef b := by
  rw [if_neg (by rw [h]; decide)]
  exact ⟨rfl, fun _ hf => hf⟩
end
end Go.Proofs.YtpogffdbencfnaaGreatDoor

namespace Go.Proofs.YtpogffdbencfnaaGreatDoor
open Go Go.RowKit

/-! The same law, each operation asked over a frame that is a letter. -/
section
variable {P : Program} {ops : Array Oper} {md : Region.Mode}
/-- what lies in a slot behind the region's operations: what the one operation that writes it has yielded, or what lay there before -/
def slotV (ops : Array Oper) (n : Nat) (a0 : Act) (u : Nat → Value) (t : Tmp) : Value :=
  match (List.range n).find? (fun i => dstOf ops i == some t) with
  | some i => u i
  | none => a0.eval (.tmp t)
def Guarded (o : Oper) (u : Nat → Value) (A S : Prop) : Prop := match o.guard with
  | none => A
  | some (g, want) => (u g = .bool want ∧ A) ∨ (u g = .bool (!want) ∧ S)
def roomB (ops : Array Oper) (n k : Nat) : Bool := (List.range n).all fun i => (match dstOf ops i with
  | some d => decide ((d : Nat) < k)
  | none => true) && (match ops[i]? with
  | some o => (match o.guard with
    | some (g, _) => decide (g < n) && (dstOf ops g).isSome
    | none => true)
  | none => true)
def FKOp (P : Program) (ops : Array Oper) (n : Nat) (B : Nat) (w0 : World) (a0 : Act) (κ : Nat → FKind) (cons : Nat → Nat → Bool) (j : Nat) (o : Oper) : Prop :=
  ∀ (u : Nat → Value) (w : World) (a : Act), Below B w0 w → B ≤ w.heap.size → (∀ i, i < n → depB ops o i = true → (κ i).φ w (u i)) →
    (∀ t, (o.looksAt ops).contains t = true → a.eval (.tmp t) = slotV ops n a0 u t) →
    Guarded o u (fkindAt P o a w B (fun b => ∃ i, i < n ∧ cons j i = true ∧ (κ i).fp (u i) b) (κ j)) ((κ j).φ w undef ∧ ∀ b, ¬ (κ j).fp undef b)
theorem evalAt {a : Act} {t : Nat} {v : Value} (h : a.tmps[t]? = some v) : a.eval (.tmp t) = v := by
  simp [Act.eval, h]
theorem evalT {a : Act} {t : Nat} {v : Value} (h : a.eval (.tmp t) = v) : a.tmps[t]?.getD undef = v := by
  rw [← h]; simp [Act.eval]
theorem slotV_at {n : Nat} (hF : KindFacts md ops n) {a0 : Act} (hr : roomB ops n a0.tmps.size = true) (u : Nat → Value) (j : Nat) (hj : j < n) (o : Oper) (ho : ops[j]? = some o) (t : Tmp) (ht : t ∈ o.looksAt ops) :
    (lexFrame ops a0 u j).tmps[t]? = (if ∃ i, i < n ∧ dstOf ops i = some t then some (slotV ops n a0 u t) else a0.tmps[t]?) ∧ (¬ (∃ i, i < n ∧ dstOf ops i = some t) → slotV ops n a0 u t = a0.eval (.tmp t)) := by
  have hlex := lexFrame_at hF a0 u j (by omega)
  by_cases hx : ∃ i, i < n ∧ dstOf ops i = some t
  · refine ⟨?_, fun h => absurd hx h⟩
    rw [if_pos hx]
    obtain ⟨i, hi, hid⟩ := hx
    have h1 := hF.look i j hi hj t o hid ho ht
    have hs : slotV ops n a0 u t = u i := by
      unfold slotV
      cases hfi : (List.range n).find? (fun i => dstOf ops i == some t) with
      | none =>
        have := List.find?_eq_none.1 hfi i (List.mem_range.2 hi)
        simp [hid] at this
      | some i' =>
        have h2 := List.find?_some hfi
        have h3 := List.mem_range.1 (List.mem_of_find?_eq_some hfi)
        have h4 : dstOf ops i' = some t := by simpa using h2
        by_cases e : i' = i
        · rw [e]
        · exact absurd hid (hF.apart i' i h3 hi e t h4)
    rw [hlex.new i t h1.1 hid, hs]
    have hrm := List.all_eq_true.1 hr i (List.mem_range.2 hi)
    simp only [hid, Bool.and_eq_true, decide_eq_true_eq] at hrm
    rw [Array.getElem?_eq_getElem (show @LT.lt Nat _ t a0.tmps.size from hrm.1)]
    rfl
  · refine ⟨?_, fun _ => ?_⟩
    · rw [if_neg hx]
      exact hlex.old t fun i hi hid => hx ⟨i, by omega, hid⟩
    · unfold slotV
      cases hfi : (List.range n).find? (fun i => dstOf ops i == some t) with
      | none => rfl
      | some i' =>
        have h2 := List.find?_some hfi
        have h3 := List.mem_range.1 (List.mem_of_find?_eq_some hfi)
        exact absurd ⟨i', h3, by simpa using h2⟩ hx
theorem fkindOp_of {n B : Nat} {w0 : World} {κ : Nat → FKind} {cons : Nat → Nat → Bool} {a0 : Act} (hF : KindFacts md ops n) (hr : roomB ops n a0.tmps.size = true) {j : Nat} {o : Oper} (hj : j < n) (ho : ops[j]? = some o)
    (h : FKOp P ops n B w0 a0 κ cons j o) : FKindOp P ops n B w0 κ cons (fun u => lexFrame ops a0 u j) j o := by
  intro u w hw hB hd
  have hv : ∀ t, (o.looksAt ops).contains t = true → (lexFrame ops a0 u j).eval (.tmp t) = slotV ops n a0 u t := fun t ht => by
    have ht' : t ∈ o.looksAt ops := by simpa using ht
    obtain ⟨h1, h2⟩ := slotV_at hF hr u j hj o ho t ht'
    by_cases hx : ∃ i, i < n ∧ dstOf ops i = some t
    · rw [if_pos hx] at h1
      exact evalAt h1
    · rw [if_neg hx] at h1
      rw [h2 hx]
      simp only [Act.eval, Array.getD_eq_getD_getElem?, h1]
  have hg := h u w (lexFrame ops a0 u j) hw hB hd hv
  unfold Guarded at hg
  show if Region.wanted o (yielded ops (lexFrame ops a0 u j).tmps) then _ else _
  cases hgu : o.guard with
  | none =>
    rw [hgu] at hg
    have : Region.wanted o (yielded ops (lexFrame ops a0 u j).tmps) = true := by unfold Region.wanted; rw [hgu]
    rw [if_pos this]
    exact hg
  | some gw =>
    obtain ⟨g, want⟩ := gw
    rw [hgu] at hg
    simp only at hg
    have hrm := List.all_eq_true.1 hr j (List.mem_range.2 hj)
    simp only [ho, hgu, Bool.and_eq_true, decide_eq_true_eq] at hrm
    obtain ⟨_, hgn, hgd⟩ := hrm
    obtain ⟨d, hd'⟩ := Option.isSome_iff_exists.1 hgd
    have hdl : d ∈ o.looksAt ops := by
      unfold Oper.looksAt
      rw [hgu]
      exact List.mem_append_right _ (by have e : (ops[g]?).bind (·.dst) = some d := hd'; simp [e])
    have h1 := (slotV_at hF hr u j hj o ho d hdl).1
    rw [if_pos ⟨g, hgn, hd'⟩] at h1
    have hs : slotV ops n a0 u d = u g := by
      unfold slotV
      cases hfi : (List.range n).find? (fun i => dstOf ops i == some d) with
      | none =>
        have := List.find?_eq_none.1 hfi g (List.mem_range.2 hgn)
        simp [hd'] at this
      | some i' =>
        have h2 := List.find?_some hfi
        have h3 := List.mem_range.1 (List.mem_of_find?_eq_some hfi)
        have h4 : dstOf ops i' = some d := by simpa using h2
        by_cases e : i' = g
        · rw [e]
        · exact absurd hd' (hF.apart i' g h3 hgn e d h4)
    rw [hs] at h1
    have hy : ∀ b, u g = .bool b → yielded ops (lexFrame ops a0 u j).tmps g = some b := fun b hb => by
      unfold yielded
      have e : (ops[g]?).bind (·.dst) = some d := hd'
      rw [e]
      simp only [Option.bind_some, h1, hb]
    rcases hg with ⟨hb, hA⟩ | ⟨hb, hS⟩
    · have : Region.wanted o (yielded ops (lexFrame ops a0 u j).tmps) = true := by unfold Region.wanted; rw [hgu]; simp only [hy _ hb]; simp
      rw [if_pos this]
      exact hA
    · have : Region.wanted o (yielded ops (lexFrame ops a0 u j).tmps) = false := by unfold Region.wanted; rw [hgu]; simp only [hy _ hb]; cases want <;> rfl
      rw [if_neg (by rw [this]; decide)]
      exact hS
/-- The asks of all operations, one below another. -/
def FKOps (P : Program) (ops : Array Oper) (n : Nat) (B : Nat) (w0 : World) (a0 : Act) (κ : Nat → FKind) (cons : Nat → Nat → Bool) : Nat → List Oper → Prop
  | _, [] => True
  | j, o :: rest => FKOp P ops n B w0 a0 κ cons j o ∧ FKOps P ops n B w0 a0 κ cons (j + 1) rest
theorem fkOps_at {n B : Nat} {w0 : World} {κ : Nat → FKind} {cons : Nat → Nat → Bool} {a0 : Act} : ∀ (l : List Oper) (k : Nat), (∀ j, j < l.length → l[j]? = ops[k + j]?) → FKOps P ops n B w0 a0 κ cons k l →
    ∀ j o, j < l.length → ops[k + j]? = some o → FKOp P ops n B w0 a0 κ cons (k + j) o
  | [], k, _, _, j, o, hj, _ => by simp at hj
  | x :: r, k, hl, h, j, o, hj, ho => by
    have h0 : ops[k]? = some x := by simpa using (hl 0 (by simp)).symm
    cases j with
    | zero =>
      have : x = o := Option.some.inj (h0.symm.trans ho)
      subst this
      exact h.1
    | succ j =>
      have := fkOps_at (n := n) (B := B) (w0 := w0) (κ := κ) (cons := cons) (a0 := a0) r (k + 1) (fun i hi => by have := hl (i + 1) (by simp; omega); simpa [Nat.add_assoc, Nat.add_comm 1 i] using this) h.2 j o (by simp at hj; omega) (by rw [← ho]; congr 1; omega)
      rw [show k + (j + 1) = k + 1 + j by omega]
      exact this
/-- A region by kinds, the whole of it, each operation over a frame that is a letter. -/
theorem wp_region_free {id : Nat} {Q : Exit → Act → World → Prop} {a : Act} {w : World} {l : List Oper} (B : Nat) (κ : Nat → FKind) (cons : Nat → Nat → Bool) (hm : P.follows .mixedOrders = true)
    (hB : kindB .any l.toArray l.length = true) (hT : tailB .any l.toArray l.length = true) (hC : consB .any l.toArray l.length cons = true) (hR : roomB l.toArray l.length a.tmps.size = true) (hBw : B ≤ w.heap.size) (hst : ∀ i, i < l.length → (κ i).Stable B)
    (hops : FKOps P l.toArray l.length B w.drew a κ cons 0 l)
    (hend : ∀ (u : Nat → Value) (w' : World), Below B w.drew w' → (∀ i, i < l.length → (∀ j, j < l.length → cons j i = false) → (κ i).φ w' (u i)) → Q .normal (lexPut u 0 l a) w') :
    (Code.region id l.toArray true).wp P Q a w := by
  have hF := kindB_facts hB
  refine wp_region_any hm ?_
  have h0 : unl (Array.replicate l.toArray.size false) l.length = l.length := unl_new _ _ hF.le
  have h1 := fkinds_any (P := P) (md := .any) (Q := Q) (a0 := a) (B := B) (w0 := w.drew) (κ := κ) (cons := cons) hF (consB_facts hC) hT hst (fun j o hj ho => by
      have := fkOps_at (P := P) (ops := l.toArray) l 0 (fun i hi => by simp) hops j o hj (by rw [Nat.zero_add]; exact ho)
      rw [Nat.zero_add] at this
      exact fkindOp_of hF hR hj ho this)
    (fun u w' hw hφ => by
      have hT' := hT
      simp only [tailB, Bool.and_eq_true] at hT'
      have := wpAny_of_seq (P := P) (md := .any) (ops := l.toArray) (Q' := Q) (l.drop l.length) l.length (headL l.toArray l.length) (lexFrame l.toArray a u l.length) w' (fun j => by simp) (by rw [List.length_drop]; exact hT'.2) (by
        rw [List.drop_length]
        have := lexPut_frame (ops := l.toArray) a u l 0 (fun j hj => by simp)
        rw [Nat.zero_add] at this
        rw [this]
        exact hend u w' hw hφ)
      rw [List.length_drop] at this
      exact this)
    l.length (Array.replicate l.toArray.size false) (fun _ => undef) a w.drew h0
    ⟨by simp, (fun j oj _ hl => by rw [getD_replicate_false] at hl; cases hl), (fun t ht htl => by simp at htl; simp [htl])⟩
    (FrameAt.nil (fun i hi => by rw [getD_replicate_false] at hi; exact absurd hi.2 (by decide))) (Below.refl _ _) hBw (fun i _ hi => by rw [getD_replicate_false] at hi; cases hi) (fun i k _ _ _ hi => by rw [getD_replicate_false] at hi; cases hi)
  have e : l.length + (l.toArray.size - l.length) = l.toArray.size := by simp
  rw [e] at h1
  exact h1
def AllStable (B : Nat) : List FKind → Prop
  | [] => True
  | κ :: r => κ.Stable B ∧ AllStable B r
theorem AllStable.at {B : Nat} : ∀ {ks : List FKind}, AllStable B ks → ∀ i, (ks.getD i anyF).Stable B
  | [], _, i => by simp; exact anyF_stable B
  | κ :: r, h, 0 => h.1
  | κ :: r, h, i + 1 => by simpa using AllStable.at h.2 i
theorem fk_enter {o : Oper} {a : Act} {w : World} {B : Nat} {C : Nat → Prop} {κ : FKind} {f : FuncId} {args : Array Value} (h : (execOp a.eval o).run P w = .ok (.enter f args) w)
    (hc : Calls P f args w (fun e w'' => ∃ v, e = .returned v ∧ FOut B C κ w w'' v)) : fkindAt P o a w B C κ := by
  unfold fkindAt
  rw [h]
  exact hc
theorem fk_step {o : Oper} {a : Act} {w w' : World} {B : Nat} {C : Nat → Prop} {κ : FKind} {v : Value} (h : (execOp a.eval o).run P w = .ok (.value v) w')
    (hc : FOut B C κ w w' v) : fkindAt P o a w B C κ := by
  unfold fkindAt
  rw [h]
  exact hc
end
end Go.Proofs.YtpogffdbencfnaaGreatDoor

namespace Go.Proofs.YtpogffdbencfnaaGreatDoor
open Go Go.RowKit

/-! Kinds with reserves: operation j may yield, and write, the old blocks Res j; a tail behind the head. -/
section
variable {P : Program} {ops : Array Oper} {md : Region.Mode}
structure ResFacts (n B : Nat) (w0 : World) (Res : Nat → Nat → Prop) : Prop where
  old : ∀ j b, j < n → Res j b → B ≤ b ∧ b < w0.heap.size
  one : ∀ i j b, i < n → j < n → Res i b → Res j b → i = j
/-- a kind that abides where nothing old is written -/
def FKind.Grows (κ : FKind) : Prop := ∀ w w' v, Ext w w' → κ.φ w v → κ.φ w' v
def Idle (cons : Nat → Nat → Bool) (Res : Nat → Nat → Prop) : Prop := (∀ i j, cons j i = false) ∧ ∀ j b, ¬ Res j b
def KStable (B : Nat) (cons : Nat → Nat → Bool) (Res : Nat → Nat → Prop) (κ : FKind) : Prop := κ.Stable B ∨ (κ.Grows ∧ Idle cons Res)
def AllKStable (B : Nat) (cons : Nat → Nat → Bool) (Res : Nat → Nat → Prop) : List FKind → Prop
  | [] => True
  | κ :: r => KStable B cons Res κ ∧ AllKStable B cons Res r
theorem AllKStable.at {B : Nat} {cons : Nat → Nat → Bool} {Res : Nat → Nat → Prop} : ∀ {ks : List FKind}, AllKStable B cons Res ks → ∀ i, KStable B cons Res (ks.getD i anyF)
  | [], _, i => by simp; exact .inl (anyF_stable B)
  | κ :: r, h, 0 => h.1
  | κ :: r, h, i + 1 => by simpa using AllKStable.at h.2 i
def depOn (ops : Array Oper) (i k : Nat) : Bool := match ops[i]? with
  | some o => depB ops o k
  | none => false
/-- What is asked of operation number j. -/
def RKindOp (md : Region.Mode) (P : Program) (ops : Array Oper) (n : Nat) (B : Nat) (w0 : World) (κ : Nat → (Nat → Value) → FKind) (cons : Nat → Nat → Bool) (Res : Nat → Nat → Prop) (A : (Nat → Value) → Act) (j : Nat) (o : Oper) : Prop :=
  ∀ (u : Nat → Value) (w : World), Below B w0 w → B ≤ w.heap.size → (∀ i, i < n → depB ops o i = true → (κ i u).φ w (u i)) → (∀ k b, k < n → (k = j ∨ Region.waitsFor md ops k j = true) → Res k b → w.heap[b]? = w0.heap[b]?) →
    if Region.wanted o (yielded ops (A u).tmps) then fkindAt P o (A u) w B (fun b => (∃ i, i < n ∧ cons j i = true ∧ (κ i u).fp (u i) b) ∨ Res j b) (κ j u) else (κ j u).φ w undef ∧ ∀ b, ¬ (κ j u).fp undef b

theorem rkinds_any {n : Nat} {κ : Nat → (Nat → Value) → FKind} {cons : Nat → Nat → Bool} {Res : Nat → Nat → Prop} {a0 : Act} {B : Nat} {w0 : World} {Q : Exit → Act → World → Prop} (hR : ResFacts n B w0 Res) (hF : KindFacts md ops n) (hCo : ConsFacts md ops n cons) (hT : tailB md ops n = true)
    (hst : ∀ i u, i < n → KStable B cons Res (κ i u)) (hcg : ∀ i u u2, i < n → (∀ k, k < n → depOn ops i k = true → u k = u2 k) → κ i u = κ i u2)
    (hops : ∀ j o, j < n → ops[j]? = some o → RKindOp md P ops n B w0 κ cons Res (fun u => lexFrame ops a0 u j) j o)
    (hend : ∀ (u : Nat → Value) (w : World), Below B w0 w → (∀ b, b < w0.heap.size → (∀ j, j < n → ¬ Res j b) → w.heap[b]? = w0.heap[b]?) → (∀ i, i < n → (∀ j, j < n → cons j i = false) → (κ i u).φ w (u i)) → wpAny P md ops Q (ops.size - n) (headL ops n) (lexFrame ops a0 u n) w) :
    ∀ (m : Nat) (L : Array Bool) (u : Nat → Value) (a : Act) (w : World), unl L n = m → HeadInv md ops n L → FrameAt ops a0 u (fun i => i < n ∧ L.getD i false = true) a →
      Below B w0 w → B ≤ w.heap.size →
      (∀ i, i < n → L.getD i false = true → (∀ j, j < n → L.getD j false = true → cons j i = false) → (κ i u).φ w (u i) ∧ ∀ b, (κ i u).fp (u i) b → B ≤ b ∧ b < w.heap.size) →
      (∀ i k, i < n → k < n → i ≠ k → L.getD i false = true → L.getD k false = true → (∀ j, j < n → L.getD j false = true → cons j i = false) → (∀ j, j < n → L.getD j false = true → cons j k = false) → ∀ b, (κ i u).fp (u i) b → ¬ (κ k u).fp (u k) b) →
      (∀ j b, j < n → L.getD j false = false → Res j b → w.heap[b]? = w0.heap[b]?) →
      (∀ i j, i < n → j < n → L.getD i false = true → L.getD j false = false → (∀ k, k < n → L.getD k false = true → cons k i = false) → ∀ b, (κ i u).fp (u i) b → ¬ Res j b) →
      (∀ i, i < n → L.getD i false = true → (∀ k, k < n → L.getD k false = true → cons k i = false) → ∀ b, (κ i u).fp (u i) b → b < w0.heap.size → ∃ j, j < n ∧ Res j b) →
      (∀ b, b < w0.heap.size → (∀ j, j < n → ¬ Res j b) → w.heap[b]? = w0.heap[b]?) →
      wpAny P md ops Q (m + (ops.size - n)) L a w := by
  simp only [tailB, Bool.and_eq_true, Bool.or_eq_true, beq_iff_eq] at hT
  obtain ⟨hT1, hT2⟩ := hT
  intro m
  induction m with
  | zero =>
    intro L u a w hm inv hf hw hBw hφ hdis hru hrd hro hkp
    have hall := unl_zero L n hm
    have hle := hF.le
    have hL : L = headL ops n := by
      apply Array.ext
      · rw [inv.size]; simp [headL]
      · intro i h1 h2
        by_cases hin : i < n
        · have := hall i hin
          simp [h1] at this
          simp [headL, hin, this]
        · have := inv.tail i (by omega) (by rw [← inv.size]; exact h1)
          simp [h1] at this
          simp [headL, hin, this]
    have ht : ∀ i, i < n → L.getD i false = true := fun i hi => by
      have h1 := hall i hi
      have : i < L.size := by rw [inv.size]; omega
      simp [this] at h1 ⊢
      exact h1
    have ha : a = lexFrame ops a0 u n := hf.eq (lexFrame_at hF a0 u n (Nat.le_refl _)) fun i => ⟨fun h => h.1, fun h => ⟨h, ht i h⟩⟩
    rw [Nat.zero_add, ha, hL]
    exact hend u w hw hkp fun i hi hc => (hφ i hi (ht i hi) fun j hj _ => hc j hj).1
  | succ m ih =>
    intro L u a w hm inv hf hw hBw hφ hdis hru hrd hro hkp
    have hle := hF.le
    obtain ⟨i0, hi0, hu0, hlow⟩ : ∃ i, i < n ∧ L.getD i true = false ∧ ∀ k, k < i → L.getD k true = true := by
      rcases listed_count n L n (Nat.le_refl _) with h | h
      · exfalso
        have : ∀ k, k ≤ n → unl L k = 0 := by
          intro k
          induction k with
          | zero => intro _; rfl
          | succ k ihk => intro hk; rw [unl, ihk (by omega), h k (by omega)]; rfl
        rw [this n (Nat.le_refl _)] at hm
        omega
      · exact h
    have hready : i0 ∈ Region.ready md ops L := by
      have ho : ops[i0]? = some ops[i0] := Array.getElem?_eq_getElem (by omega)
      refine mem_ready.2 ⟨hu0, _, ho, fun e he hb => ?_⟩
      have h1 := hF.edge i0 _ hi0 ho e he hb
      have h2 := hlow e.on h1
      have : e.on < L.size := by rw [inv.size]; omega
      simp [this] at h2 ⊢
      exact h2
    rw [show m + 1 + (ops.size - n) = (m + (ops.size - n)) + 1 by omega]
    refine ⟨fun h0 => (by rw [h0] at hready; cases hready), fun j hj => ?_⟩
    have hjn : j < n := by
      obtain ⟨_, oj, hoj, _⟩ := mem_ready.1 hj
      have hjs := (Array.getElem?_eq_some_iff.1 hoj).1
      rcases hT1 with h | h
      · omega
      · rcases Nat.lt_or_ge j n with h' | h'
        · exact h'
        · exact absurd hj (tail_waits h.1 h.2 (by omega) inv _ i0 rfl hi0 hu0 j h')
    obtain ⟨hjun, oj, hoj, hall⟩ := mem_ready.1 hj
    have hj0 : ¬ L.getD j false = true := by rw [getD_both hjun]; simp
    have hwait : ∀ i, Region.waitsFor md ops j i = true → L.getD i false = true := fun i hi => by
      obtain ⟨o', ho', e, he, hb, hon⟩ := Region.waitsFor_spec hi
      have : o' = oj := Option.some.inj (ho'.symm.trans hoj)
      subst this
      rw [← hon]
      exact hall e he hb
    have hclosed : ∀ k i, L.getD k false = true → Region.waitsFor md ops k i = true → L.getD i false = true := fun k i hk hi => by
      obtain ⟨o', ho', e, he, hb, hon⟩ := Region.waitsFor_spec hi
      rw [← hon]
      exact inv.closed k o' ho' hk e he hb
    have hlex := lexFrame_at hF a0 u j (by omega)
    have hsame : ∀ d, d ∈ oj.looksAt ops → a.tmps[d]? = (lexFrame ops a0 u j).tmps[d]? := fun d hd => by
      by_cases hx : ∃ i, i < n ∧ dstOf ops i = some d
      · obtain ⟨i, hi, hid⟩ := hx
        have h1 := hF.look i j hi hjn d oj hid hoj hd
        have h2 := hwait i h1.2
        rw [hf.new i d ⟨hi, h2⟩ hid, hlex.new i d h1.1 hid]
      · rw [hf.old d fun i hi hid => hx ⟨i, hi.1, hid⟩, hlex.old d fun i hi hid => hx ⟨i, by omega, hid⟩]
    have hsel := Region.noSelect_spec hF.sel j
    have hex : execOp a.eval oj = execOp (lexFrame ops a0 u j).eval oj := exec_congr (ops := ops) (fun cs b => hsel oj cs b hoj) hsame
    have hwa : Region.wanted oj (yielded ops a.tmps) = Region.wanted oj (yielded ops (lexFrame ops a0 u j).tmps) := wanted_congr hsame
    have hlive : ∀ i, i < n → depB ops oj i = true → ∀ k, k < n → L.getD k false = true → cons k i = false := fun i hi hd k hk hLk => by
      cases hc : cons k i with
      | false => rfl
      | true =>
        exfalso
        by_cases e : j = k
        · subst e; exact hj0 hLk
        · exact hj0 (hclosed k j hLk (hCo.look i k j oj hi hk hjn hc e hoj hd))
    have hop := hops j oj hjn hoj u w hw hBw fun i hi hd => by
      have hdep : ∃ d, dstOf ops i = some d ∧ d ∈ oj.looksAt ops := by
        have hd' := hd
        unfold depB at hd'
        split at hd'
        · rename_i d hd''
          exact ⟨d, hd'', by simpa using hd'⟩
        · cases hd'
      obtain ⟨d, hd1, hd2⟩ := hdep
      exact (hφ i hi (hwait i (hF.look i j hi hjn d oj hd1 hoj hd2).2) (hlive i hi hd)).1
    have hop := hop (fun k b hk hor hb => hru k b hk (by
      rcases hor with rfl | h
      · exact getD_both hjun
      · cases hLk : L.getD k false with
        | false => rfl
        | true => exact absurd (hclosed k j hLk h) hj0) hb)
    have hcl : ∀ i, i < n → cons j i = true → L.getD i false = true ∧ ∀ k, k < n → L.getD k false = true → cons k i = false := fun i hi hc => by
      refine ⟨hwait i (hCo.wait i j hi hjn hc), fun k hk hLk => ?_⟩
      cases hck : cons k i with
      | false => rfl
      | true => have := hCo.one i j k hi hjn hk hc hck; subst this; exact absurd hLk hj0
    have hnext : ∀ v w', FOut B (fun b => (∃ i, i < n ∧ cons j i = true ∧ (κ i u).fp (u i) b) ∨ Res j b) (κ j u) w w' v → wpAny P md ops Q (m + (ops.size - n)) (L.setIfInBounds j true) (a.put oj.dst v) w' := fun v w' hv => by
      obtain ⟨hfr, hvφ, hvf⟩ := hv
      have hu' := unl_set L j hjun n
      have hjf : L.getD j false = false := getD_both hjun
      have hCB : ∀ b, ((∃ i, i < n ∧ cons j i = true ∧ (κ i u).fp (u i) b) ∨ Res j b) → B ≤ b := fun b h => by
        rcases h with ⟨i, hi, hc, hf⟩ | h
        · have h1 := hcl i hi hc
          exact ((hφ i hi h1.1 h1.2).2 b hf).1
        · exact (hR.old j b hjn h).1
      have hbel : Below B w w' := hfr.below hBw hCB
      have hLne : ∀ i, i ≠ j → (L.setIfInBounds j true).getD i false = L.getD i false := fun i hne => getD_set_ne false (Ne.symm hne)
      have hjs : j < L.size := by rw [inv.size]; omega
      have hLj : (L.setIfInBounds j true).getD j false = true := by simp [hjs]
      have hold : ∀ i, i < n → i ≠ j → (L.setIfInBounds j true).getD i false = true → (∀ k, k < n → (L.setIfInBounds j true).getD k false = true → cons k i = false) →
          L.getD i false = true ∧ (∀ k, k < n → L.getD k false = true → cons k i = false) ∧ cons j i = false := fun i hi hne hLi hc => by
        refine ⟨by rw [← hLne i hne]; exact hLi, fun k hk hLk => hc k hk ?_, hc j hjn hLj⟩
        by_cases e : k = j
        · subst e; exact hLj
        · rw [hLne k e]; exact hLk
      have hup : ∀ i, i < n → (L.setIfInBounds j true).getD i false = true → κ i (upd u j v) = κ i u := fun i hi hLi => by
        refine hcg i _ _ hi fun k hk hd => ?_
        refine upd_ne u v fun e => ?_
        subst e
        unfold depOn at hd
        cases ho : ops[i]? with
        | none => rw [ho] at hd; cases hd
        | some oi =>
          rw [ho] at hd
          have hdep : ∃ d, dstOf ops k = some d ∧ d ∈ oi.looksAt ops := by
            have hd' : depB ops oi k = true := hd
            unfold depB at hd'
            split at hd'
            · rename_i d hd''
              exact ⟨d, hd'', by simpa using hd'⟩
            · cases hd'
          obtain ⟨d, hd1, hd2⟩ := hdep
          have hwt := (hF.look k i hk hi d oi hd1 ho hd2).2
          by_cases e : i = k
          · subst e
            exact hj0 (hwait i hwt)
          · rw [hLne i e] at hLi
            exact hj0 (hclosed i k hLi hwt)
      refine ih (L.setIfInBounds j true) (upd u j v) (a.put oj.dst v) w' (by have := hu'.1 hjn; omega) (inv.set hj hjn) ?_ (hw.trans hbel) (Nat.le_trans hBw hfr.size) (fun i hi hLi hc => ?_) (fun i k hi hk hik hLi hLk hci hck b hbi hbk => ?_) (fun k b hk hLk hb => ?_) (fun i k hi hk hLi hLk hci b hbi hbk => ?_) (fun i hi hLi hci b hbi hlt => ?_) (fun b hlt hno => ?_)
      · have h1 : FrameAt ops a0 (upd u j v) (fun i => i < n ∧ L.getD i false = true) a := hf.congr fun i hi => by
          rw [upd_ne u v fun e => hj0 (by rw [← e]; exact hi.2)]
        have h2 := h1.put (T := fun i => i < n ∧ (L.setIfInBounds j true).getD i false = true) j (fun i hi d hd => fun e => hF.apart i j hi.1 hjn (fun e' => hj0 (by rw [← e']; exact hi.2)) d e hd) (fun i => by
          by_cases e : j = i
          · subst e
            simp [hjs, hjn]
          · rw [getD_set_ne false e]
            constructor
            · exact fun h => .inl h
            · rintro (h | h)
              · exact h
              · exact absurd h.symm e)
        rw [upd_same, dstOf_some hoj] at h2
        exact h2
      · rw [hup i hi hLi]
        by_cases e : i = j
        · subst e
          rw [upd_same]
          refine ⟨hvφ, fun b hb => ⟨?_, (hvf b hb).2⟩⟩
          rcases (hvf b hb).1 with h | h
          · omega
          · exact hCB b h
        · rw [upd_ne u v e]
          obtain ⟨h1, h2, h3⟩ := hold i hi e hLi hc
          have h4 := hφ i hi h1 h2
          refine ⟨?_, fun b hb => ⟨(h4.2 b hb).1, Nat.lt_of_lt_of_le (h4.2 b hb).2 hfr.size⟩⟩
          rcases hst i u hi with hst | ⟨hst, hidle⟩
          rotate_left
          · exact hst w w' _ ⟨hfr.os, hfr.tape, hfr.output, hfr.size, fun b hb => hfr.block b hb fun hC => hC.elim (fun ⟨i', _, hc', _⟩ => by rw [hidle.1] at hc'; cases hc') (hidle.2 j b)⟩ h4.1
          refine hst w w' _ hbel (fun b hb => ?_) h4.1
          refine hfr.block b (h4.2 b hb).2 fun hC => ?_
          rcases hC with ⟨i', hi', hc', hf'⟩ | hC
          rotate_left
          · exact hrd i j hi hjn h1 hjf h2 b hb hC
          have h5 := hcl i' hi' hc'
          exact hdis i i' hi hi' (fun e => by subst e; rw [h3] at hc'; cases hc') h1 h5.1 h2 h5.2 b hb hf'
      · rw [hup i hi hLi] at hbi
        rw [hup k hk hLk] at hbk
        by_cases ei : i = j
        · subst ei
          have ek : k ≠ i := Ne.symm hik
          rw [upd_same] at hbi
          rw [upd_ne u v ek] at hbk
          obtain ⟨h1, h2, h3⟩ := hold k hk ek hLk hck
          have h4 := hφ k hk h1 h2
          rcases (hvf b hbi).1 with h | ⟨i', hi', hc', hf'⟩ | h
          · have := (h4.2 b hbk).2; omega
          rotate_left
          · exact hrd k i hk hjn h1 hjf h2 b hbk h
          · have h5 := hcl i' hi' hc'
            exact hdis i' k hi' hk (fun e => by subst e; rw [h3] at hc'; cases hc') h5.1 h1 h5.2 h2 b hf' hbk
        · by_cases ek : k = j
          · subst ek
            rw [upd_same] at hbk
            rw [upd_ne u v ei] at hbi
            obtain ⟨h1, h2, h3⟩ := hold i hi ei hLi hci
            have h4 := hφ i hi h1 h2
            rcases (hvf b hbk).1 with h | ⟨i', hi', hc', hf'⟩ | h
            · have := (h4.2 b hbi).2; omega
            rotate_left
            · exact hrd i k hi hjn h1 hjf h2 b hbi h
            · have h5 := hcl i' hi' hc'
              exact hdis i' i hi' hi (fun e => by subst e; rw [h3] at hc'; cases hc') h5.1 h1 h5.2 h2 b hf' hbi
          · rw [upd_ne u v ei] at hbi
            rw [upd_ne u v ek] at hbk
            obtain ⟨h1, h2, _⟩ := hold i hi ei hLi hci
            obtain ⟨h3, h4, _⟩ := hold k hk ek hLk hck
            exact hdis i k hi hk hik h1 h3 h2 h4 b hbi hbk
      · have hkj : k ≠ j := fun e => by subst e; rw [hLj] at hLk; cases hLk
        rw [hLne k hkj] at hLk
        have h1 := hru k b hk hLk hb
        have h2 := hR.old k b hk hb
        refine (hfr.block b (Nat.lt_of_lt_of_le h2.2 hw.size) fun hC => ?_).trans h1
        rcases hC with ⟨i', hi', hc', hf'⟩ | hC
        · have h5 := hcl i' hi' hc'
          exact hrd i' k hi' hk h5.1 hLk h5.2 b hf' hb
        · exact hkj (hR.one k j b hk hjn hb hC)
      · have hkj : k ≠ j := fun e => by subst e; rw [hLj] at hLk; cases hLk
        rw [hLne k hkj] at hLk
        have h2 := hR.old k b hk hbk
        rw [hup i hi hLi] at hbi
        by_cases ei : i = j
        · subst ei
          rw [upd_same] at hbi
          rcases (hvf b hbi).1 with h | ⟨i', hi', hc', hf'⟩ | h
          · have := hw.size; omega
          · have h5 := hcl i' hi' hc'
            exact hrd i' k hi' hk h5.1 hLk h5.2 b hf' hbk
          · exact hkj (hR.one k i b hk hjn hbk h)
        · rw [upd_ne u v ei] at hbi
          obtain ⟨h1, h3, _⟩ := hold i hi ei hLi hci
          exact hrd i k hi hk h1 hLk h3 b hbi hbk
      · rw [hup i hi hLi] at hbi
        by_cases ei : i = j
        · subst ei
          rw [upd_same] at hbi
          rcases (hvf b hbi).1 with h | ⟨i', hi', hc', hf'⟩ | h
          · have := hw.size; omega
          · have h5 := hcl i' hi' hc'
            exact hro i' hi' h5.1 h5.2 b hf' hlt
          · exact ⟨i, hjn, h⟩
        · rw [upd_ne u v ei] at hbi
          obtain ⟨h1, h3, _⟩ := hold i hi ei hLi hci
          exact hro i hi h1 h3 b hbi hlt
      · refine (hfr.block b (Nat.lt_of_lt_of_le hlt hw.size) fun hC => ?_).trans (hkp b hlt hno)
        rcases hC with ⟨i', hi', hc', hf'⟩ | hC
        · have h5 := hcl i' hi' hc'
          obtain ⟨k, hk, hr⟩ := hro i' hi' h5.1 h5.2 b hf' hlt
          exact hno k hk hr
        · exact hno j hjn hC
    show wpOp P ops Q j _ a w
    unfold wpOp
    rw [hoj]
    simp only
    rw [hwa]
    split
    · rename_i hwt
      rw [if_pos hwt] at hop
      left
      refine wp_of_fkindAt (κ := κ j u) ?_ fun v w' h1 => hnext v w' h1
      unfold fkindAt at hop ⊢
      rw [hex]
      exact hop
    · rename_i hwt
      rw [if_neg hwt] at hop
      exact hnext undef w ⟨Fr.of_ext (Ext.refl w), hop.1, fun b hb => absurd hb (hop.2 b)⟩
def RKOp (md : Region.Mode) (P : Program) (ops : Array Oper) (n : Nat) (B : Nat) (w0 : World) (a0 : Act) (κ : Nat → (Nat → Value) → FKind) (cons : Nat → Nat → Bool) (Res : Nat → Nat → Prop) (j : Nat) (o : Oper) : Prop :=
  ∀ (u : Nat → Value) (w : World) (a : Act), Below B w0 w → B ≤ w.heap.size → (∀ i, i < n → depB ops o i = true → (κ i u).φ w (u i)) →
    (∀ t, (o.looksAt ops).contains t = true → a.eval (.tmp t) = slotV ops n a0 u t) → (∀ k b, k < n → (k = j ∨ Region.waitsFor md ops k j = true) → Res k b → w.heap[b]? = w0.heap[b]?) →
    Guarded o u (fkindAt P o a w B (fun b => (∃ i, i < n ∧ cons j i = true ∧ (κ i u).fp (u i) b) ∨ Res j b) (κ j u)) ((κ j u).φ w undef ∧ ∀ b, ¬ (κ j u).fp undef b)
theorem rkindOp_of {n B : Nat} {w0 : World} {κ : Nat → (Nat → Value) → FKind} {cons : Nat → Nat → Bool} {Res : Nat → Nat → Prop} {a0 : Act} (hF : KindFacts md ops n) (hr : roomB ops n a0.tmps.size = true) {j : Nat} {o : Oper} (hj : j < n) (ho : ops[j]? = some o)
    (h : RKOp md P ops n B w0 a0 κ cons Res j o) : RKindOp md P ops n B w0 κ cons Res (fun u => lexFrame ops a0 u j) j o := by
  intro u w hw hB hd hrs
  have hv : ∀ t, (o.looksAt ops).contains t = true → (lexFrame ops a0 u j).eval (.tmp t) = slotV ops n a0 u t := fun t ht => by
    have ht' : t ∈ o.looksAt ops := by simpa using ht
    obtain ⟨h1, h2⟩ := slotV_at hF hr u j hj o ho t ht'
    by_cases hx : ∃ i, i < n ∧ dstOf ops i = some t
    · rw [if_pos hx] at h1
      exact evalAt h1
    · rw [if_neg hx] at h1
      rw [h2 hx]
      simp only [Act.eval, Array.getD_eq_getD_getElem?, h1]
  have hg := h u w (lexFrame ops a0 u j) hw hB hd hv hrs
  unfold Guarded at hg
  show if Region.wanted o (yielded ops (lexFrame ops a0 u j).tmps) then _ else _
  cases hgu : o.guard with
  | none =>
    rw [hgu] at hg
    have : Region.wanted o (yielded ops (lexFrame ops a0 u j).tmps) = true := by unfold Region.wanted; rw [hgu]
    rw [if_pos this]
    exact hg
  | some gw =>
    obtain ⟨g, want⟩ := gw
    rw [hgu] at hg
    simp only at hg
    have hrm := List.all_eq_true.1 hr j (List.mem_range.2 hj)
    simp only [ho, hgu, Bool.and_eq_true, decide_eq_true_eq] at hrm
    obtain ⟨_, hgn, hgd⟩ := hrm
    obtain ⟨d, hd'⟩ := Option.isSome_iff_exists.1 hgd
    have hdl : d ∈ o.looksAt ops := by
      unfold Oper.looksAt
      rw [hgu]
      exact List.mem_append_right _ (by have e : (ops[g]?).bind (·.dst) = some d := hd'; simp [e])
    have h1 := (slotV_at hF hr u j hj o ho d hdl).1
    rw [if_pos ⟨g, hgn, hd'⟩] at h1
    have hs : slotV ops n a0 u d = u g := by
      unfold slotV
      cases hfi : (List.range n).find? (fun i => dstOf ops i == some d) with
      | none =>
        have := List.find?_eq_none.1 hfi g (List.mem_range.2 hgn)
        simp [hd'] at this
      | some i' =>
        have h2 := List.find?_some hfi
        have h3 := List.mem_range.1 (List.mem_of_find?_eq_some hfi)
        have h4 : dstOf ops i' = some d := by simpa using h2
        by_cases e : i' = g
        · rw [e]
        · exact absurd hd' (hF.apart i' g h3 hgn e d h4)
    rw [hs] at h1
    have hy : ∀ b, u g = .bool b → yielded ops (lexFrame ops a0 u j).tmps g = some b := fun b hb => by
      unfold yielded
      have e : (ops[g]?).bind (·.dst) = some d := hd'
      rw [e]
      simp only [Option.bind_some, h1, hb]
    rcases hg with ⟨hb, hA⟩ | ⟨hb, hS⟩
    · have : Region.wanted o (yielded ops (lexFrame ops a0 u j).tmps) = true := by unfold Region.wanted; rw [hgu]; simp only [hy _ hb]; simp
      rw [if_pos this]
      exact hA
    · have : Region.wanted o (yielded ops (lexFrame ops a0 u j).tmps) = false := by unfold Region.wanted; rw [hgu]; simp only [hy _ hb]; cases want <;> rfl
      rw [if_neg (by rw [this]; decide)]
      exact hS
/-- The asks of all operations, one below another. -/
def RKOps (md : Region.Mode) (P : Program) (ops : Array Oper) (n : Nat) (B : Nat) (w0 : World) (a0 : Act) (κ : Nat → (Nat → Value) → FKind) (cons : Nat → Nat → Bool) (Res : Nat → Nat → Prop) : Nat → List Oper → Prop
  | _, [] => True
  | j, o :: rest => RKOp md P ops n B w0 a0 κ cons Res j o ∧ RKOps md P ops n B w0 a0 κ cons Res (j + 1) rest
theorem rkOps_at {n B : Nat} {w0 : World} {κ : Nat → (Nat → Value) → FKind} {cons : Nat → Nat → Bool} {Res : Nat → Nat → Prop} {a0 : Act} : ∀ (l : List Oper) (k : Nat), (∀ j, j < l.length → l[j]? = ops[k + j]?) → RKOps md P ops n B w0 a0 κ cons Res k l →
    ∀ j o, j < l.length → ops[k + j]? = some o → RKOp md P ops n B w0 a0 κ cons Res (k + j) o
  | [], k, _, _, j, o, hj, _ => by simp at hj
  | x :: r, k, hl, h, j, o, hj, ho => by
    have h0 : ops[k]? = some x := by simpa using (hl 0 (by simp)).symm
    cases j with
    | zero =>
      have : x = o := Option.some.inj (h0.symm.trans ho)
      subst this
      exact h.1
    | succ j =>
      have := rkOps_at (n := n) (B := B) (w0 := w0) (κ := κ) (cons := cons) (Res := Res) (a0 := a0) r (k + 1) (fun i hi => by have := hl (i + 1) (by simp; omega); simpa [Nat.add_assoc, Nat.add_comm 1 i] using this) h.2 j o (by simp at hj; omega) (by rw [← ho]; congr 1; omega)
      rw [show k + (j + 1) = k + 1 + j by omega]
      exact this

theorem any_res {Q : Exit → Act → World → Prop} {a : Act} {w : World} {l : List Oper} (n B : Nat) (κ : Nat → (Nat → Value) → FKind) (cons : Nat → Nat → Bool) (Res : Nat → Nat → Prop)
    (hB : kindB .any l.toArray n = true) (hT : tailB .any l.toArray n = true) (hC : consB .any l.toArray n cons = true) (hR : roomB l.toArray n a.tmps.size = true) (hBw : B ≤ w.heap.size) (hst : ∀ i u, i < n → KStable B cons Res (κ i u)) (hcg : ∀ i u u2, i < n → (∀ k, k < n → depOn l.toArray i k = true → u k = u2 k) → κ i u = κ i u2) (hRes : ResFacts n B w Res)
    (hops : RKOps .any P l.toArray n B w.drew a κ cons Res 0 (l.take n))
    (hend : ∀ (u : Nat → Value) (w' : World), Below B w.drew w' → (∀ b, b < w.heap.size → (∀ j, j < n → ¬ Res j b) → w'.heap[b]? = w.heap[b]?) → (∀ i, i < n → (∀ j, j < n → cons j i = false) → (κ i u).φ w' (u i)) → wpList P l.toArray Q (l.drop n) (lexPut u 0 (l.take n) a) w') :
    wpAny P .any l.toArray Q l.toArray.size (Array.replicate l.toArray.size false) a w.drew := by
  have hF := kindB_facts hB
  have hle : n ≤ l.length := by have := hF.le; simpa using this
  have h0 : unl (Array.replicate l.toArray.size false) n = n := unl_new _ n hF.le
  have hRes' : ResFacts n B w.drew Res := ⟨hRes.old, hRes.one⟩
  have h1 := rkinds_any (P := P) (md := .any) (Q := Q) (a0 := a) (B := B) (w0 := w.drew) (κ := κ) (cons := cons) (Res := Res) hRes' hF (consB_facts hC) hT hst hcg (fun j o hj ho => by
      have := rkOps_at (P := P) (ops := l.toArray) (n := n) (B := B) (w0 := w.drew) (κ := κ) (cons := cons) (Res := Res) (a0 := a) (l.take n) 0 (fun i hi => by
        have : i < n := by rw [List.length_take] at hi; omega
        simp [List.getElem?_take_of_lt this]) hops j o (by rw [List.length_take]; omega) (by rw [Nat.zero_add]; exact ho)
      rw [Nat.zero_add] at this
      exact rkindOp_of hF hR hj ho this)
    (fun u w' hw hkp hφ => by
      have hT' := hT
      simp only [tailB, Bool.and_eq_true] at hT'
      have := wpAny_of_seq (P := P) (md := .any) (ops := l.toArray) (Q' := Q) (l.drop n) n (headL l.toArray n) (lexFrame l.toArray a u n) w' (fun j => by simp [List.getElem?_drop]) (by rw [List.length_drop]; exact hT'.2) (by
        have := lexPut_frame (ops := l.toArray) a u (l.take n) 0 (fun j hj => by
          have : j < n := by rw [List.length_take] at hj; omega
          simp [List.getElem?_take_of_lt this])
        rw [List.length_take, Nat.min_eq_left hle, Nat.zero_add] at this
        rw [this]
        exact hend u w' hw hkp hφ)
      rw [List.length_drop] at this
      exact this)
    n (Array.replicate l.toArray.size false) (fun _ => undef) a w.drew h0
    ⟨by simp, (fun j oj _ hl => by rw [getD_replicate_false] at hl; cases hl), (fun t ht htl => by simp at htl; simp [htl])⟩
    (FrameAt.nil (fun i hi => by rw [getD_replicate_false] at hi; exact absurd hi.2 (by decide))) (Below.refl _ _) hBw (fun i _ hi => by rw [getD_replicate_false] at hi; cases hi) (fun i k _ _ _ hi => by rw [getD_replicate_false] at hi; cases hi)
    (fun _ _ _ _ _ => rfl) (fun i j _ _ hi => by rw [getD_replicate_false] at hi; cases hi) (fun i _ hi => by rw [getD_replicate_false] at hi; cases hi) (fun _ _ _ => rfl)
  have e : n + (l.toArray.size - n) = l.toArray.size := by have := hF.le; omega
  rw [e] at h1
  exact h1
/-- A region by kinds, with reserves; behind its first n operations a tail that draws nothing. -/
theorem wp_region_res {id : Nat} {Q : Exit → Act → World → Prop} {a : Act} {w : World} {l : List Oper} (n B : Nat) (κ : Nat → (Nat → Value) → FKind) (cons : Nat → Nat → Bool) (Res : Nat → Nat → Prop) (hm : P.follows .mixedOrders = true)
    (hB : kindB .any l.toArray n = true) (hT : tailB .any l.toArray n = true) (hC : consB .any l.toArray n cons = true) (hR : roomB l.toArray n a.tmps.size = true) (hBw : B ≤ w.heap.size) (hst : ∀ i u, i < n → KStable B cons Res (κ i u)) (hcg : ∀ i u u2, i < n → (∀ k, k < n → depOn l.toArray i k = true → u k = u2 k) → κ i u = κ i u2) (hRes : ResFacts n B w Res)
    (hops : RKOps .any P l.toArray n B w.drew a κ cons Res 0 (l.take n))
    (hend : ∀ (u : Nat → Value) (w' : World), Below B w.drew w' → (∀ b, b < w.heap.size → (∀ j, j < n → ¬ Res j b) → w'.heap[b]? = w.heap[b]?) → (∀ i, i < n → (∀ j, j < n → cons j i = false) → (κ i u).φ w' (u i)) → wpList P l.toArray Q (l.drop n) (lexPut u 0 (l.take n) a) w') :
    (Code.region id l.toArray true).wp P Q a w :=
  wp_region_any hm (any_res n B κ cons Res hB hT hC hR hBw hst hcg hRes hops hend)
theorem rows_in {r n : Nat} {row : String} {args : Array Value} {w : World} {R : Value → World → Prop} (h : Rows P row args w R) : RowsIn (Fence.wide.inRound r) n P row args w R :=
  fun c cs _ => let ⟨v, w', h1, h2⟩ := h c cs; ⟨v, w', h1, stepsIn_wide.2 h2⟩
theorem oper_in {r n : Nat} {o : Oper} {a : Act} {w : World} {K : Act → World → Prop} {Q : Exit → Act → World → Prop} (hnd : ∀ c, o.op ≠ .defer c) (h : o.wp P a w K Q) : o.wpIn (Fence.wide.inRound r) n P a w K Q := by
  refine ⟨fun _ _ => trivial, ?_⟩
  rw [Oper.semAt_eq _ _ _ hnd]
  unfold Oper.wp at h
  generalize (execOp a.eval o).run P w = x at *
  cases x with
  | ok nx w' =>
    cases nx with
    | value v => exact h
    | skip => exact h
    | defer d => exact h
    | enter f args => exact ⟨fun h => (by cases h), CallsIn.inRound r (callsIn_wide.2 h)⟩
    | row row args => exact ⟨fun h => (by cases h), rows_in h⟩
    | _ => exact h.elim
  | halt hx w' =>
    cases hx <;> exact h
def noDefer (l : List Oper) : Bool := l.all fun o => match o.op with
  | .defer _ => false
  | _ => true
theorem any_in {r n : Nat} {l : List Oper} {Q : Exit → Act → World → Prop} (hnd : noDefer l = true) (hQ : ¬ LetsOut Q) : ∀ (m : Nat) (L : Array Bool) (a : Act) (w : World), wpAny P md l.toArray Q m L a w → wpAnyIn (Fence.wide.inRound r) n P md l.toArray Q m L a w
  | 0, _, _, _, h => h
  | m + 1, L, a, w, h => by
    refine ⟨h.1, fun i hi => ?_⟩
    have h2 := h.2 i hi
    unfold wpOp at h2
    unfold wpOpIn
    cases ho : l.toArray[i]? with
    | none =>
      rw [ho] at h2
      exact any_in hnd hQ m _ _ _ h2
    | some o =>
      rw [ho] at h2
      simp only at h2 ⊢
      have hd : ∀ c, o.op ≠ .defer c := fun c e => by
        have hmem : o ∈ l := by
          obtain ⟨hlt, he⟩ := Array.getElem?_eq_some_iff.1 ho
          rw [← he]; simp
        have := List.all_eq_true.1 hnd o hmem
        rw [e] at this
        cases this
      by_cases hw : Region.wanted o (yielded l.toArray a.tmps) = true
      · rw [if_pos hw] at h2 ⊢
        rcases h2 with h2 | h2
        · exact Oper.wpIn_mono (fun a' w' h' => any_in hnd hQ m _ _ _ h') (oper_in hd h2)
        · exact absurd h2.2 hQ
      · rw [if_neg hw] at h2 ⊢
        exact ⟨fun _ _ => trivial, any_in hnd hQ m _ _ _ h2⟩
/-- the same in a round of a range over a function -/
theorem wpIn_region_res {id r m : Nat} {Q : Exit → Act → World → Prop} {a : Act} {w : World} {l : List Oper} (n B : Nat) (κ : Nat → (Nat → Value) → FKind) (cons : Nat → Nat → Bool) (Res : Nat → Nat → Prop) (hm : P.follows .mixedOrders = true) (hnd : noDefer l = true) (hQ : ¬ LetsOut Q)
    (hB : kindB .any l.toArray n = true) (hT : tailB .any l.toArray n = true) (hC : consB .any l.toArray n cons = true) (hR : roomB l.toArray n a.tmps.size = true) (hBw : B ≤ w.heap.size) (hst : ∀ i u, i < n → KStable B cons Res (κ i u)) (hcg : ∀ i u u2, i < n → (∀ k, k < n → depOn l.toArray i k = true → u k = u2 k) → κ i u = κ i u2) (hRes : ResFacts n B w Res)
    (hops : RKOps .any P l.toArray n B w.drew a κ cons Res 0 (l.take n))
    (hend : ∀ (u : Nat → Value) (w' : World), Below B w.drew w' → (∀ b, b < w.heap.size → (∀ j, j < n → ¬ Res j b) → w'.heap[b]? = w.heap[b]?) → (∀ i, i < n → (∀ j, j < n → cons j i = false) → (κ i u).φ w' (u i)) → wpList P l.toArray Q (l.drop n) (lexPut u 0 (l.take n) a) w') :
    (Code.region id l.toArray true).wpIn (Fence.wide.inRound r) m P Q a w :=
  wpIn_region_any hm (any_in hnd hQ _ _ _ _ (any_res n B κ cons Res hB hT hC hR hBw hst hcg hRes hops hend))
end
end Go.Proofs.YtpogffdbencfnaaGreatDoor

