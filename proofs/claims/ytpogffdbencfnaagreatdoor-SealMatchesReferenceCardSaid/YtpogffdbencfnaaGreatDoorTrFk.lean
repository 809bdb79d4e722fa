import Derived.Test.YtpogffdbencfnaaGreatDoorKn
import Derived.Test.YtpogffdbencfnaaGreatDoorTrApp
import Derived.Maps.AppendAt
set_option linter.unusedVariables false
namespace Go.Proofs.YtpogffdbencfnaaGreatDoor
open Go Go.RowKit

def OwnF (B : Nat) (l : List ByteArray) : FKind := ⟨fun w v => Own B w v l, fun v b => v.ownBlock = some b⟩
theorem ownF_stable (B : Nat) (l : List ByteArray) : (OwnF B l).Stable B := by
  intro w w' v hb hf h
  have h : w.ownsRow B 9 1 v l.length (l.map Value.string) := h
  refine (show w'.ownsRow B 9 1 v l.length (l.map Value.string) from ⟨h.1, ?_⟩)
  rcases h.2 with hn | ⟨g, cap, cur, rfl, hB, hgg, rest⟩
  · exact .inl hn
  · exact .inr ⟨g, cap, cur, rfl, hB, by rw [hf g rfl]; exact hgg, rest⟩
theorem append_run_at {B : Nat} {w : World} {va vb : Value} {l1 l2 : List ByteArray} (ty : TypeId) (hA : Own B w va l1) (hC : IsStrC w vb l2) (hB : B ≤ w.heap.size) (hl : l1.length + l2.length ≤ 1099511627776) :
    ∃ v' w', (Builtin.append_ #[22, 22] ty #[va, vb]).run Tryz.prog w = .ok v' w' ∧ Own B w' v' (l1 ++ l2) ∧ w.grownBy w' va.ownBlock ∧ (v'.ownBlock = va.ownBlock ∨ v'.ownBlock = some w.heap.size) := by
  obtain ⟨it, hti, hz0, hz1, hz2⟩ : ∃ i, Tryz.prog.info? 9 = some i ∧ i.zero = some (.string ByteArray.empty) ∧ i.size = 1 ∧ i.bytes = 16 := info_parts (by kernel_rfl)
  obtain ⟨ao, cap, rfl, hlc, hcm, hcells⟩ := hC
  cases ao with
  | none =>
    have hn : l2 = [] := by
      cases l2 with
      | nil => rfl
      | cons x r => obtain ⟨b, o, e, _⟩ := hcells 0 (by simp); cases e
    subst hn
    refine ⟨va, w, ?_, by simpa using hA, World.grownBy.refl w _, .inl rfl⟩
    have hown : w.ownsRow B 9 1 va l1.length (l1.map Value.string) := hA
    rcases hown.2 with ⟨rfl, he⟩ | ⟨g, cp, cur, rfl, _, _, hnc, _⟩
    · simp [Builtin.append_, run_underlying Tryz.underlying22, sizeOf, typeInfo, hti, Builtin.lenOf, Builtin.firstCells]
    · simp [Builtin.append_, run_underlying Tryz.underlying22, sizeOf, typeInfo, hti, Builtin.lenOf, Builtin.firstCells, hnc, storeCells]
  | some ad =>
    obtain ⟨v', w', hr, h2, h3, _, h5⟩ := run_append_own_at (P := Tryz.prog) w B 22 ty 9 it (.string ByteArray.empty) 1 16 Tryz.underlying22 hti hz0 hz1 hz2 rfl (by decide) va l1.length (l1.map Value.string) hA ad l2.length cap (l2.map Value.string) (by simp) (fun j u hj => by
      have hjl : j < l2.length := by
        have := (List.getElem?_eq_some_iff.1 hj).1
        simpa using this
      obtain ⟨b, o, e, hlt, hc⟩ := hcells j hjl
      cases e
      rw [Lib.add_plain]
      rw [hc]
      rw [← hj]
      simp [List.getD, hjl]) (fun u hu => by obtain ⟨s, _, rfl⟩ := List.mem_map.1 hu; rfl) (by unfold maxLen; omega) (by omega) hB
    refine ⟨v', w', hr, ?_, h3, h5⟩
    unfold Own
    rw [List.length_append, List.map_append]
    exact h2
theorem fk_append {o : Oper} {a : Act} {w : World} {B : Nat} {C : Nat → Prop} (s x : Operand)
    (ho : o.op = .call { callee := .builtin .append, args := #[s, x], argTypes := #[22, 22] })
    {va vb : Value} {l1 l2 : List ByteArray} (hs : a.eval s = va) (hx : a.eval x = vb) (hA : Own B w va l1) (hC : IsStrC w vb l2) (hB : B ≤ w.heap.size) (hl : l1.length + l2.length ≤ 1099511627776)
    (hc : ∀ b, va.ownBlock = some b → C b) : fkindAt Tryz.prog o a w B C (OwnF B (l1 ++ l2)) := by
  obtain ⟨v', w', hr, h2, h3, h4⟩ := append_run_at o.type hA hC hB hl
  unfold fkindAt execOp
  simp only [ho, resolve, invoke, builtin, Sem.run_bind, Sem.run_pure, Result.andThen_ok, List.map_toArray, List.map_cons, List.map_nil, hs, hx, hr]
  refine ⟨⟨h3.os, h3.tape, h3.output, h3.size, fun b hb hn => h3.block b hb fun e => hn (hc b e.symm)⟩, h2, fun b hb => ⟨?_, (own_block h2 b hb).2⟩⟩
  have hb : v'.ownBlock = some b := hb
  rcases h4 with h | h
  · exact .inr (hc b (by rw [← h]; exact hb))
  · rw [h] at hb
    exact .inl (by cases hb; exact Nat.le_refl _)
theorem fk_own_of {B : Nat} {C : Nat → Prop} {w w' : World} {v : Value} {l : List ByteArray} (hB : B ≤ w.heap.size) (h : Own w.heap.size w' v l) (hb : Below w.heap.size w w') : FOut B C (OwnF B l) w w' v :=
  ⟨Fr.of_ext hb, own_mono h hB, fun b hf => ⟨.inl (own_block h b hf).1, (own_block h b hf).2⟩⟩
/-- a call whose value is a row of its own -/
theorem fk_own {f : FuncId} {args : Array Value} {w : World} {B : Nat} {C : Nat → Prop} {l : List ByteArray} (hB : B ≤ w.heap.size)
    (h : Calls Tryz.prog f args w fun e w' => ∃ v', e = .returned v' ∧ Own w.heap.size w' v' l ∧ Below w.heap.size w w') :
    Calls Tryz.prog f args w (fun e w'' => ∃ v, e = .returned v ∧ FOut B C (OwnF B l) w w'' v) :=
  h.mono fun e w' ⟨v, he, ho, hb⟩ => ⟨v, he, fk_own_of hB ho hb⟩
/-- a call of one value -/
theorem fk_val {f : FuncId} {args : Array Value} {w : World} {B : Nat} {C : Nat → Prop} {c : Value}
    (h : Calls Tryz.prog f args w fun e w' => e = .returned c ∧ Below w.heap.size w w') :
    Calls Tryz.prog f args w (fun e w'' => ∃ v, e = .returned v ∧ FOut B C (valF c) w w'' v) :=
  h.mono fun e w' ⟨he, hb⟩ => ⟨c, he, FOut.valExt hb rfl⟩
/-- a value handed on -/
theorem fk_move {B : Nat} {C : Nat → Prop} {w : World} {v : Value} {l : List ByteArray} (h : Own B w v l) (hc : ∀ b, v.ownBlock = some b → C b) : FOut B C (OwnF B l) w w v :=
  ⟨Fr.of_ext (Ext.refl w), h, fun b hb => ⟨.inr (hc b hb), (own_block h b hb).2⟩⟩
theorem ownF_st (B B' : Nat) (l : List ByteArray) : (OwnF B l).Stable B' := by
  intro w w' v hb hf h
  have h : w.ownsRow B 9 1 v l.length (l.map Value.string) := h
  refine (show w'.ownsRow B 9 1 v l.length (l.map Value.string) from ⟨h.1, ?_⟩)
  rcases h.2 with hn | ⟨g, cap, cur, rfl, hB, hgg, rest⟩
  · exact .inl hn
  · exact .inr ⟨g, cap, cur, rfl, hB, by rw [hf g rfl]; exact hgg, rest⟩
/-- a row of strings that is read alone, in a block of its own -/
def StrO (l : List ByteArray) : FKind := ⟨fun w v => IsStrC w v l, fun v b => v.ownBlock = some b⟩
theorem strO_keep {w w' : World} {v : Value} {l : List ByteArray} (h : IsStrC w v l) (hs : w.heap.size ≤ w'.heap.size) (hf : ∀ b, v.ownBlock = some b → w'.heap[b]? = w.heap[b]?) : IsStrC w' v l := by
  obtain ⟨ao, cap, rfl, h2, h3, h4⟩ := h
  refine ⟨ao, cap, rfl, h2, h3, fun i hi => ?_⟩
  obtain ⟨b, o, e, hlt, hc⟩ := h4 i hi
  subst e
  exact ⟨b, o, rfl, Nat.lt_of_lt_of_le hlt hs, (World.cell?_of_block (a := ⟨b, o + i, none⟩) (hf b rfl)).trans hc⟩
theorem strO_st (B : Nat) (l : List ByteArray) : (StrO l).Stable B := fun w w' v hb hf h => strO_keep h hb.size hf
/-- such a row beside no error -/
def TupO (l : List ByteArray) : FKind := ⟨fun w v => ∃ v', v = .tuple #[v', .int .i64 0] ∧ IsStrC w v' l ∧ ∀ b, v'.ownBlock = some b → b < w.heap.size, fun v b => ∃ v', v = .tuple #[v', .int .i64 0] ∧ v'.ownBlock = some b⟩
theorem tupO_st (B : Nat) (l : List ByteArray) : (TupO l).Stable B := fun w w' v hb hf ⟨v', e, h, hl⟩ => ⟨v', e, strO_keep h hb.size fun b hb => hf b ⟨v', e, hb⟩, fun b hb2 => Nat.lt_of_lt_of_le (hl b hb2) hb.size⟩
/-- the first of a pair -/
def FstK (x : Value) : FKind := ⟨fun _ v => x = .tuple #[v, .int .i64 0] ∧ ∃ ao n c, v = .slice ao n c, fun _ _ => False⟩
theorem fstK_st (B : Nat) (x : Value) : (FstK x).Stable B := fun _ _ _ _ _ h => h
/-- a store: the block that it leaves -/
def MemK (b : Nat) (o : Obj) : FKind := ⟨fun w _ => w.heap[b]? = some o, fun _ c => c = b⟩
theorem memK_st (B b : Nat) (o : Obj) : (MemK b o).Stable B := fun w w' v _ hf h => (hf b rfl).trans h
theorem fr_set {C : Nat → Prop} (w : World) (b o : Nat) (v : Value) (hC : C b) : Fr C w (w.setCell ⟨b, o, none⟩ v) :=
  ⟨rfl, rfl, rfl, by rw [World.size_setCell]; exact Nat.le_refl _, fun k _ hk => Below.heap_setCell w ⟨b, o, none⟩ v k (fun e => hk (by rw [e]; exact hC))⟩
theorem fk_store {o : Oper} {a : Act} {w : World} {B : Nat} {C : Nat → Prop} {b i : Nat} {v : Value} {ob : Obj} (h : (execOp a.eval o).run Tryz.prog w = .ok .skip (w.setCell ⟨b, i, none⟩ v))
    (hb : b < w.heap.size) (hC : C b) (hm : (w.setCell ⟨b, i, none⟩ v).heap[b]? = some ob) : fkindAt Tryz.prog o a w B C (MemK b ob) := by
  unfold fkindAt
  rw [h]
  exact ⟨fr_set w b i v hC, hm, fun c hc => by subst hc; exact ⟨.inr hC, by rw [World.size_setCell]; exact hb⟩⟩
theorem fk_tup {f : FuncId} {args : Array Value} {w : World} {B : Nat} {C : Nat → Prop} {l : List ByteArray}
    (h : Calls Tryz.prog f args w fun e w' => ∃ v', e = .returned (.tuple #[v', .int .i64 0]) ∧ IsStrC w' v' l ∧ (∀ b, v'.ownBlock = some b → w.heap.size ≤ b ∧ b < w'.heap.size) ∧ Below w.heap.size w w') :
    Calls Tryz.prog f args w (fun e w'' => ∃ v, e = .returned v ∧ FOut B C (TupO l) w w'' v) :=
  h.mono fun e w' ⟨v', he, hs, hn, hb⟩ => ⟨_, he, Fr.of_ext hb, ⟨v', rfl, hs, fun b hb2 => (hn b hb2).2⟩, fun b ⟨v2, e2, hb2⟩ => by
    have e3 : v' = v2 := by simpa using e2
    subst e3
    exact ⟨.inl (hn b hb2).1, (hn b hb2).2⟩⟩
theorem own_form {B : Nat} {w : World} {v : Value} {l : List ByteArray} (h : Own B w v l) : ∃ ao n cap, v = .slice ao n cap := by
  rcases h.2 with ⟨rfl, _⟩ | ⟨g, cap, cur, rfl, _⟩
  · exact ⟨_, _, _, rfl⟩
  · exact ⟨_, _, _, rfl⟩
theorem below_undrew {B : Nat} {w w' : World} (h : Below B w.drew w') : Below B w w' := ⟨h.os, h.tape, h.output, h.size, h.block⟩
theorem fk_load_own {o : Oper} {a : Act} {w : World} {B B' : Nat} {C : Nat → Prop} {v : Value} {l : List ByteArray} (h : (execOp a.eval o).run Tryz.prog w = .ok (.value v) w) (ho : Own B w v l) (hC : ∀ b, v.ownBlock = some b → C b) : fkindAt Tryz.prog o a w B' C (OwnF B l) :=
  fk_step h ⟨Fr.of_ext (Ext.refl w), ho, fun b hb => ⟨.inr (hC b hb), (own_block ho b hb).2⟩⟩
theorem strc_keep {w w' : World} {v : Value} {l : List ByteArray} (h : IsStrC w v l) (hs : w.heap.size ≤ w'.heap.size) (hc : ∀ b o s, w.cell? ⟨b, o, none⟩ = some (.string s) → w'.cell? ⟨b, o, none⟩ = some (.string s)) : IsStrC w' v l := by
  obtain ⟨ao, cap, rfl, h2, h3, h4⟩ := h
  refine ⟨ao, cap, rfl, h2, h3, fun i hi => ?_⟩
  obtain ⟨b, o, e, hlt, hcl⟩ := h4 i hi
  exact ⟨b, o, e, Nat.lt_of_lt_of_le hlt hs, hc b (o + i) _ hcl⟩
end Go.Proofs.YtpogffdbencfnaaGreatDoor
