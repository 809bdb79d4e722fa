import Derived.Test.YtpogffdbencfnaaGreatDoorTrFk
import Derived.Test.YtpogffdbencfnaaGreatDoorTrTextsO
set_option linter.unusedVariables false
namespace Go.Proofs.YtpogffdbencfnaaGreatDoor
open Go Go.RowKit

/-! several rows of one's own side by side -/
def Apart (a b : Value) : Prop := ∀ k, a.ownBlock = some k → b.ownBlock ≠ some k
theorem Apart.symm {a b : Value} (h : Apart a b) : Apart b a := fun k hb ha => h k ha hb
theorem Apart.nil (b : Value) : Apart (.slice none 0 0) b := fun k h => by cases h
theorem Apart.nilr (a : Value) : Apart a (.slice none 0 0) := fun k _ h => by cases h
/-- what abides when a row grows -/
def Keeps (B : Nat) (w w' : World) (va v' : Value) : Prop := ∀ u lu, Own B w u lu → Apart va u → Own B w' u lu ∧ Apart v' u
theorem keeps_app {B : Nat} {w w' : World} {va v' : Value} (hg : w.grownBy w' va.ownBlock) (hv : v'.ownBlock = va.ownBlock ∨ v'.ownBlock = some w.heap.size) : Keeps B w w' va v' := fun u lu hu ha => by
  refine ⟨ownF_st B 0 lu w w' u ⟨hg.os, hg.tape, hg.output, hg.size, fun k hk => absurd hk (Nat.not_lt_zero k)⟩ (fun b hb => hg.block b (own_block hu b hb).2 (fun e => ha b e.symm hb)) hu, fun k hk hu2 => ?_⟩
  rcases hv with h | h
  · exact ha k (by rw [← h]; exact hk) hu2
  · rw [h] at hk
    have := (own_block hu k hu2).2
    have := Option.some.inj hk
    omega
/-- append(va, vb...) where other rows of one's own lie beside -/
theorem appX {ops : Array Oper} {rest : List Oper} {o : Oper} {a : Act} {Q : Exit → Act → World → Prop} (hw : Region.wanted o (yielded ops a.tmps) = true) (s x : Operand)
    (ho : o.op = .call { callee := .builtin .append, args := #[s, x], argTypes := #[22, 22] })
    {B : Nat} {w0 w : World} {va vb : Value} {l1 l2 : List ByteArray} (hs : a.eval s = va) (hx : a.eval x = vb) (hA : Own B w va l1) (hC : IsStrC w vb l2) (hb : Below B w0 w) (hB : B ≤ w0.heap.size) (hl : l1.length + l2.length ≤ 1099511627776)
    (h : ∀ v' w', Own B w' v' (l1 ++ l2) → Keeps B w w' va v' → Below B w0 w' → wpList Tryz.prog ops Q rest (a.put o.dst v') w') :
    wpList Tryz.prog ops Q (o :: rest) a w := by
  obtain ⟨v', w', hr, h2, h3, h4⟩ := append_run_at o.type hA hC (Nat.le_trans hB hb.size) hl
  unfold wpList
  rw [if_pos hw]
  refine .inl ?_
  unfold Oper.wp execOp
  simp only [ho, resolve, invoke, builtin, Sem.run_bind, Sem.run_pure, Result.andThen_ok, List.map_toArray, List.map_cons, List.map_nil, hs, hx, hr]
  exact h v' w' h2 (keeps_app h3 h4) (hb.grown h3 (Nat.le_trans hB hb.size) (fun k hk => (own_block hA k hk).1))
/-- the same over a literal row that was laid just before -/
theorem appL {ops : Array Oper} {rest : List Oper} {o : Oper} {a : Act} {Q : Exit → Act → World → Prop} (hw : Region.wanted o (yielded ops a.tmps) = true) (s x : Operand)
    (ho : o.op = .call { callee := .builtin .append, args := #[s, x], argTypes := #[22, 22] })
    {B n : Nat} {w0 w : World} {va : Value} {l1 l2 : List ByteArray} (hs : a.eval s = va) (hx : a.eval x = .slice (some ⟨w.heap.size, 0, none⟩) n n) (hn : l2.length = n) (hn2 : n ≤ 1000) (hA : Own B w va l1) (hb : Below B w0 w) (hB : B ≤ w0.heap.size) (hl : l1.length + 1000 ≤ 1099511627776)
    (h : ∀ v' w', Own B w' v' (l1 ++ l2) → Keeps B w w' va v' → Below B w0 w' → wpList Tryz.prog ops Q rest (a.put o.dst v') w') :
    wpList Tryz.prog ops Q (o :: rest) a (w.alloc (.cells (l2.map Value.string).toArray 9)) := by
  have hal : Below w.heap.size w (w.alloc (.cells (l2.map Value.string).toArray 9)) := (Below.refl _ _).alloc (Nat.le_refl _) _
  have hlit := strc_lit w l2 (by unfold maxLen; omega)
  rw [hn] at hlit
  refine appX hw s x ho hs hx (hA.on hal) hlit (hb.alloc (Nat.le_trans hB hb.size) _) hB (by omega) fun v' w' h1 h2 h3 => h v' w' h1 (fun u lu hu ha => h2 u lu (hu.on hal) ha) h3
/-- three rows -/
structure Own3 (B : Nat) (w0 W : World) (a : Value) (la : List ByteArray) (b : Value) (lb : List ByteArray) (c : Value) (lc : List ByteArray) : Prop where
  oa : Own B W a la
  ob : Own B W b lb
  oc : Own B W c lc
  ab : Apart a b
  ac : Apart a c
  bc : Apart b c
  below : Below B w0 W
theorem Own3.on {B : Nat} {w0 W W' : World} {a b c : Value} {la lb lc : List ByteArray} (h : Own3 B w0 W a la b lb c lc) (hB : B ≤ W.heap.size) (hb : Below W.heap.size W W') : Own3 B w0 W' a la b lb c lc :=
  ⟨h.oa.on hb, h.ob.on hb, h.oc.on hb, h.ab, h.ac, h.bc, h.below.trans (hb.mono hB)⟩
theorem Own3.seta {B : Nat} {w0 W W' : World} {a b c v' : Value} {la lb lc l' : List ByteArray} (h : Own3 B w0 W a la b lb c lc) (ho : Own B W' v' l') (hk : Keeps B W W' a v') (hb : Below B w0 W') : Own3 B w0 W' v' l' b lb c lc :=
  ⟨ho, (hk b lb h.ob h.ab).1, (hk c lc h.oc h.ac).1, (hk b lb h.ob h.ab).2, (hk c lc h.oc h.ac).2, h.bc, hb⟩
theorem Own3.setb {B : Nat} {w0 W W' : World} {a b c v' : Value} {la lb lc l' : List ByteArray} (h : Own3 B w0 W a la b lb c lc) (ho : Own B W' v' l') (hk : Keeps B W W' b v') (hb : Below B w0 W') : Own3 B w0 W' a la v' l' c lc :=
  ⟨(hk a la h.oa h.ab.symm).1, ho, (hk c lc h.oc h.bc).1, (hk a la h.oa h.ab.symm).2.symm, h.ac, (hk c lc h.oc h.bc).2, hb⟩
theorem Own3.setc {B : Nat} {w0 W W' : World} {a b c v' : Value} {la lb lc l' : List ByteArray} (h : Own3 B w0 W a la b lb c lc) (ho : Own B W' v' l') (hk : Keeps B W W' c v') (hb : Below B w0 W') : Own3 B w0 W' a la b lb v' l' :=
  ⟨(hk a la h.oa h.ac.symm).1, (hk b lb h.ob h.bc.symm).1, ho, h.ab, (hk a la h.oa h.ac.symm).2.symm, (hk b lb h.ob h.bc.symm).2.symm, hb⟩
theorem Own3.nilc {B : Nat} {w0 W : World} {a b c : Value} {la lb lc : List ByteArray} (h : Own3 B w0 W a la b lb c lc) : Own3 B w0 W a la b lb (.slice none 0 0) [] :=
  ⟨h.oa, h.ob, Own.nil _ _, h.ab, Apart.nilr _, Apart.nilr _, h.below⟩
theorem keeps_region {B : Nat} {w w' : World} {va v' : Value} (hs : w.heap.size ≤ w'.heap.size) (hk : ∀ b, b < w.heap.size → ¬ va.ownBlock = some b → w'.heap[b]? = w.heap[b]?) (ho : w'.os = w.os) (ht : w'.tape = w.tape) (hp : w'.output = w.output)
    (hG : ∀ b, v'.ownBlock = some b → va.ownBlock = some b ∨ w.heap.size ≤ b) : Keeps B w w' va v' := fun u lu hu ha => by
  refine ⟨ownF_st B 0 lu w w' u ⟨ho, ht, hp, hs, fun k hk => absurd hk (Nat.not_lt_zero k)⟩ (fun b hb => hk b (own_block hu b hb).2 (fun e => ha b e hb)) hu, fun k hk2 hu2 => ?_⟩
  rcases hG k hk2 with h | h
  · exact ha k h hu2
  · have := (own_block hu k hu2).2
    omega
/-- a row of one's own, its block told -/
def OwnG (B : Nat) (l : List ByteArray) (G : Nat → Prop) : FKind := ⟨fun w v => Own B w v l ∧ ∀ b, v.ownBlock = some b → G b, fun v b => v.ownBlock = some b⟩
theorem ownG_st (B B' : Nat) (l : List ByteArray) (G : Nat → Prop) : (OwnG B l G).Stable B' := fun w w' v hb hf h => ⟨ownF_st B B' l w w' v hb hf h.1, h.2⟩
theorem fk_appendG {o : Oper} {a : Act} {w : World} {B B' : Nat} {C : Nat → Prop} {G : Nat → Prop} (s x : Operand)
    (ho : o.op = .call { callee := .builtin .append, args := #[s, x], argTypes := #[22, 22] })
    {va vb : Value} {l1 l2 : List ByteArray} (hs : a.eval s = va) (hx : a.eval x = vb) (hA : Own B w va l1) (hC : IsStrC w vb l2) (hB : B ≤ w.heap.size) (hl : l1.length + l2.length ≤ 1099511627776)
    (hc : ∀ b, va.ownBlock = some b → C b) (hG1 : ∀ b, va.ownBlock = some b → G b) (hG2 : G w.heap.size) : fkindAt Tryz.prog o a w B' C (OwnG B (l1 ++ l2) G) := by
  obtain ⟨v', w', hr, h2, h3, h4⟩ := append_run_at o.type hA hC hB hl
  unfold fkindAt execOp
  simp only [ho, resolve, invoke, builtin, Sem.run_bind, Sem.run_pure, Result.andThen_ok, List.map_toArray, List.map_cons, List.map_nil, hs, hx, hr]
  have hb : ∀ b, v'.ownBlock = some b → va.ownBlock = some b ∨ b = w.heap.size := fun b hb => by
    rcases h4 with h | h
    · exact .inl (by rw [← h]; exact hb)
    · rw [h] at hb
      exact .inr (Option.some.inj hb).symm
  refine ⟨⟨h3.os, h3.tape, h3.output, h3.size, fun b hb hn => h3.block b hb fun e => hn (hc b e.symm)⟩, ⟨h2, fun b hb2 => ?_⟩, fun b hb2 => ⟨?_, (own_block h2 b hb2).2⟩⟩
  · rcases hb b hb2 with h | h
    · exact hG1 b h
    · rw [h]; exact hG2
  · rcases hb b hb2 with h | h
    · exact .inr (hc b h)
    · exact .inl (by omega)
theorem fk_moveG {o : Oper} {a : Act} {w : World} {B B' : Nat} {C G : Nat → Prop} {v : Value} {l : List ByteArray} (h : (execOp a.eval o).run Tryz.prog w = .ok (.value v) w) (ho : Own B w v l) (hG : ∀ b, v.ownBlock = some b → G b) (hC : ∀ b, v.ownBlock = some b → C b) : fkindAt Tryz.prog o a w B' C (OwnG B l G) :=
  fk_step h ⟨Fr.of_ext (Ext.refl w), ⟨ho, hG⟩, fun b hb => ⟨.inr (hC b hb), (own_block ho b hb).2⟩⟩
end Go.Proofs.YtpogffdbencfnaaGreatDoor
