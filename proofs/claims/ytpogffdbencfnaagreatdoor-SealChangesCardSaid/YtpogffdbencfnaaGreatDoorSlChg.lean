import Derived.Test.YtpogffdbencfnaaGreatDoorSlCk
import Derived.Test.YtpogffdbencfnaaGreatDoorSlHead
import Derived.Test.YtpogffdbencfnaaGreatDoorTrShown
import Derived.Test.YtpogffdbencfnaaGreatDoorKindsF
set_option linter.unusedVariables false
namespace Go.Proofs.YtpogffdbencfnaaGreatDoor
open Go Go.RowKit

/-- a block of one's own that a region lays -/
def PtrK (T : TypeId) (cs : Array Value) : FKind := ⟨fun w v => ∃ b, v = .pointer (some ⟨b, 0, none⟩) ∧ w.heap[b]? = some (.cells cs T (0, 0)), fun v c => v = .pointer (some ⟨c, 0, none⟩)⟩
theorem ptrK_st (B : Nat) (T : TypeId) (cs : Array Value) : (PtrK T cs).Stable B := fun w w' v _ hf ⟨b, e, h⟩ => ⟨b, e, (hf b e).trans h⟩
/-- a whole struct stored through a pointer of one's own -/
def StoK (T : TypeId) (p a : Value) : FKind := ⟨fun w _ => ∃ b x y z, p = .pointer (some ⟨b, 0, none⟩) ∧ a = .agg #[x, y, z] ∧ w.heap[b]? = some (.cells #[x, y, z] T (0, 0)), fun _ c => p = .pointer (some ⟨c, 0, none⟩)⟩
theorem stoK_st (B : Nat) (T : TypeId) (p a : Value) : (StoK T p a).Stable B := fun w w' v _ hf ⟨b, x, y, z, e, ea, h⟩ => ⟨b, x, y, z, e, ea, (hf b e).trans h⟩
/-- a struct whose second and third cells are slices -/
def AggK (x y z : Value) : FKind := ⟨fun _ v => v = .agg #[x, y, z] ∧ (∃ a b c, y = .slice a b c) ∧ ∃ a b c, z = .slice a b c, fun _ _ => False⟩
theorem aggK_st (B : Nat) (x y z : Value) : (AggK x y z).Stable B := fun _ _ _ _ _ h => h
theorem fk_agg {o : Oper} {a : Act} {w : World} {B : Nat} {C : Nat → Prop} {x y z : Value} (hy : ∃ a b c, y = .slice a b c) (hz : ∃ a b c, z = .slice a b c) (h : (execOp a.eval o).run Tryz.prog w = .ok (.value (.agg #[x, y, z])) w) : fkindAt Tryz.prog o a w B C (AggK x y z) :=
  fk_step h ⟨Fr.of_ext (Ext.refl w), ⟨rfl, hy, hz⟩, fun _ hf => hf.elim⟩
theorem fk_ptr {o : Oper} {a : Act} {w : World} {B : Nat} {C : Nat → Prop} {T : TypeId} {cs : Array Value} (h : (execOp a.eval o).run Tryz.prog w = .ok (.value (.pointer (some ⟨w.heap.size, 0, none⟩))) (w.alloc (.cells cs T))) : fkindAt Tryz.prog o a w B C (PtrK T cs) :=
  fk_step h ⟨Fr.of_ext ((Below.refl _ _).alloc (Nat.le_refl _) _), ⟨_, rfl, World.alloc_heap_new _ _⟩, fun c hc => by
    simp only [PtrK, Value.pointer.injEq, Option.some.injEq, Addr.mk.injEq, and_true] at hc
    subst hc
    exact ⟨.inl (Nat.le_refl _), by simp⟩⟩
theorem fk_sto {o : Oper} {a : Act} {w : World} {B : Nat} {C : Nat → Prop} {T : TypeId} {b : Nat} {x y z x0 y0 z0 p ag : Value} (hp : p = .pointer (some ⟨b, 0, none⟩)) (ha : ag = .agg #[x, y, z]) (hob : w.heap[b]? = some (.cells #[x0, y0, z0] T (0, 0)))
    (h : (execOp a.eval o).run Tryz.prog w = .ok .skip (((w.setCell ⟨b, 0, none⟩ x).setCell ⟨b, 1, none⟩ y).setCell ⟨b, 2, none⟩ z)) (hC : C b) : fkindAt Tryz.prog o a w B C (StoK T p ag) := by
  have hlt : b < w.heap.size := (Array.getElem?_eq_some_iff.1 hob).1
  have h1 := heap_set_same w b 0 x _ _ _ hob
  have h2 := heap_set_same _ b 1 y _ _ _ h1
  have h3 := heap_set_same _ b 2 z _ _ _ h2
  unfold fkindAt
  rw [h]
  refine ⟨⟨rfl, rfl, rfl, by rw [World.size_setCell, World.size_setCell, World.size_setCell]; exact Nat.le_refl _, fun k _ hk => ?_⟩, ⟨b, x, y, z, hp, ha, h3⟩, fun c hc => ?_⟩
  · have hne : k ≠ b := fun e => hk (by rw [e]; exact hC)
    rw [heap_set_other _ b 2 z k hne, heap_set_other _ b 1 y k hne, heap_set_other _ b 0 x k hne]
  · rw [hp] at hc
    simp only [StoK, Value.pointer.injEq, Option.some.injEq, Addr.mk.injEq, and_true] at hc
    subst hc
    exact ⟨.inr hC, by rw [World.size_setCell, World.size_setCell, World.size_setCell]; exact hlt⟩
theorem own_set {B : Nat} {w : World} {v : Value} {l : List ByteArray} (h : Own B w v l) (k : Nat) (x : ByteArray) (hk : k < l.length) : ∃ g cap, v = .slice (some ⟨g, 0, none⟩) l.length cap ∧ B ≤ g ∧ Own B (w.setCell ⟨g, k, none⟩ (.string x)) v (l.set k x) ∧ w.frozen? ⟨g, k, none⟩ = false ∧ w.cell? ⟨g, k, none⟩ = some (.string (l.getD k ByteArray.empty)) := by
  have hc := strc_idx h.strc k hk
  have h' := h
  rcases h'.2 with ⟨rfl, h0⟩ | ⟨g, cap, cur, rfl, hB, hg, _⟩
  · omega
  · obtain ⟨b, o, c2, e, hcl⟩ := hc
    simp only [Value.slice.injEq, Option.some.injEq, Addr.mk.injEq] at e
    obtain ⟨⟨rfl, rfl, _⟩, _, rfl⟩ := e
    rw [Nat.zero_add] at hcl
    have := own_store h k x hk
    exact ⟨_, _, rfl, hB, this, World.ownsRow.frozenAt h k, hcl⟩
/-- the changed seal: a block of one's own with two rows of one's own -/
structure Bad3 (B : Nat) (w0 W : World) (b : Nat) (idx : Int) (vs vp : Value) (sig path : List ByteArray) : Prop where
  below : Below B w0 W
  os : Own B W vs sig
  op : Own B W vp path
  blk : W.heap[b]? = some (.cells #[.int .i64 idx, vs, vp] 24 (0, 0))
  lo : B ≤ b
  sp : ∀ k, vs.ownBlock = some k → vp.ownBlock ≠ some k
  sb : vs.ownBlock ≠ some b
  pb : vp.ownBlock ≠ some b
theorem Bad3.lt {B : Nat} {w0 W : World} {b : Nat} {idx : Int} {vs vp : Value} {sig path : List ByteArray} (h : Bad3 B w0 W b idx vs vp sig path) : b < W.heap.size := (Array.getElem?_eq_some_iff.1 h.blk).1
theorem Bad3.row {B : Nat} {w0 W : World} {b : Nat} {idx : Int} {vs vp : Value} {sig path : List ByteArray} (h : Bad3 B w0 W b idx vs vp sig path) : RowIs b #[.int .i64 idx, vs, vp] 24 W := ⟨h.lt, h.blk⟩
theorem own_other {B g : Nat} {w : World} {v x : Value} {l : List ByteArray} {o : Nat} (h : Own B w v l) (hn : v.ownBlock ≠ some g) : Own B (w.setCell ⟨g, o, none⟩ x) v l :=
  ownF_st B 0 l w _ v ⟨rfl, rfl, rfl, by rw [World.size_setCell]; exact Nat.le_refl _, fun k hk => absurd hk (Nat.not_lt_zero k)⟩ (fun k hk => heap_set_other w g o x k (fun e => hn (by rw [← e]; exact hk))) h
theorem Bad3.setS {B : Nat} {w0 W : World} {b : Nat} {idx : Int} {vs vp : Value} {sig path : List ByteArray} (h : Bad3 B w0 W b idx vs vp sig path) (k : Nat) (x : ByteArray) (hk : k < sig.length) :
    ∃ g cap, vs = .slice (some ⟨g, 0, none⟩) sig.length cap ∧ W.frozen? ⟨g, k, none⟩ = false ∧ W.cell? ⟨g, k, none⟩ = some (.string (sig.getD k ByteArray.empty)) ∧ Bad3 B w0 (W.setCell ⟨g, k, none⟩ (.string x)) b idx vs vp (sig.set k x) path := by
  obtain ⟨g, cap, e, hB, ho, hf, hc⟩ := own_set h.os k x hk
  have hg : vs.ownBlock = some g := by rw [e]; rfl
  refine ⟨g, cap, e, hf, hc, ?_, ho, own_other h.op (h.sp g hg), ?_, h.lo, h.sp, h.sb, h.pb⟩
  · exact h.below.setCell (p := ⟨g, k, none⟩) hB _
  · rw [heap_set_other W g k _ b (fun e2 => h.sb (by rw [e2]; exact hg))]
    exact h.blk
theorem Bad3.setP {B : Nat} {w0 W : World} {b : Nat} {idx : Int} {vs vp : Value} {sig path : List ByteArray} (h : Bad3 B w0 W b idx vs vp sig path) (k : Nat) (x : ByteArray) (hk : k < path.length) :
    ∃ g cap, vp = .slice (some ⟨g, 0, none⟩) path.length cap ∧ W.frozen? ⟨g, k, none⟩ = false ∧ W.cell? ⟨g, k, none⟩ = some (.string (path.getD k ByteArray.empty)) ∧ Bad3 B w0 (W.setCell ⟨g, k, none⟩ (.string x)) b idx vs vp sig (path.set k x) := by
  obtain ⟨g, cap, e, hB, ho, hf, hc⟩ := own_set h.op k x hk
  have hg : vp.ownBlock = some g := by rw [e]; rfl
  refine ⟨g, cap, e, hf, hc, ?_, own_other h.os (fun e2 => h.sp g e2 hg), ho, ?_, h.lo, h.sp, h.sb, h.pb⟩
  · exact h.below.setCell (p := ⟨g, k, none⟩) hB _
  · rw [heap_set_other W g k _ b (fun e2 => h.pb (by rw [e2]; exact hg))]
    exact h.blk
/-- the block alone was written -/
theorem Bad3.setI {B : Nat} {w0 W W' : World} {b : Nat} {idx i2 : Int} {vs vp : Value} {sig path : List ByteArray} (h : Bad3 B w0 W b idx vs vp sig path) (hb : Below B w0 W') (hs : W.heap.size ≤ W'.heap.size) (hos : W'.os = W.os) (ht : W'.tape = W.tape) (hp : W'.output = W.output) (hk : ∀ k, k < W.heap.size → k ≠ b → W'.heap[k]? = W.heap[k]?)
    (h2 : W'.heap[b]? = some (.cells #[.int .i64 i2, vs, vp] 24 (0, 0))) : Bad3 B w0 W' b i2 vs vp sig path :=
  ⟨hb, ownF_st B 0 sig W W' vs ⟨hos, ht, hp, hs, fun k hk => absurd hk (Nat.not_lt_zero k)⟩ (fun k hk2 => hk k (own_block h.os k hk2).2 (fun e => h.sb (by rw [← e]; exact hk2))) h.os,
   ownF_st B 0 path W W' vp ⟨hos, ht, hp, hs, fun k hk => absurd hk (Nat.not_lt_zero k)⟩ (fun k hk2 => hk k (own_block h.op k hk2).2 (fun e => h.pb (by rw [← e]; exact hk2))) h.op, h2, h.lo, h.sp, h.sb, h.pb⟩
end Go.Proofs.YtpogffdbencfnaaGreatDoor
