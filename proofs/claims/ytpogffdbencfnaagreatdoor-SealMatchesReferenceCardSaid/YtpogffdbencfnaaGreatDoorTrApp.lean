import Derived.Test.YtpogffdbencfnaaGreatDoorTrPath
set_option linter.unusedVariables false
namespace Go.Proofs.YtpogffdbencfnaaGreatDoor
open Go Go.RowKit

/-- append(v, r), the string r laid into a new block of one cell -/
theorem app1 {ops : Array Oper} {rest : List Oper} {o : Oper} {a : Act} {Q : Exit → Act → World → Prop} (hgd : o.guard = none) (s x : Operand)
    (ho : o.op = .call { callee := .builtin .append, args := #[s, x], argTypes := #[22, 22] })
    {B : Nat} {w0 w : World} {v : Value} {acc : List ByteArray} {r : ByteArray} {cap : Nat} (hs : a.eval s = v) (hO : Own B w v acc) (hb : Below B w0 w) (hB : B ≤ w0.heap.size) (hl : acc.length ≤ 1099511627776)
    (hx : a.eval x = .slice (some ⟨w.heap.size, 0, none⟩) 1 cap)
    (h : ∀ v' w', Own B w' v' (acc ++ [r]) → Below B w0 w' → wpList Tryz.prog ops Q rest (a.put o.dst v') w') :
    wpList Tryz.prog ops Q (o :: rest) a (w.alloc (.cells #[.string r] 9)) := by
  obtain ⟨it, hti, hz0, hz1, hz2⟩ : ∃ i, Tryz.prog.info? 9 = some i ∧ i.zero = some (.string ByteArray.empty) ∧ i.size = 1 ∧ i.bytes = 16 := info_parts (by kernel_rfl)
  have hbs := hb.size
  refine wpList_append_own _ hgd s x 22 ho B 9 it (.string ByteArray.empty) 1 16 Tryz.underlying22 hti hz0 hz1 hz2 rfl (by decide) v acc.length (acc.map Value.string) hs (World.ownsRow.alloc hO _) ⟨w.heap.size, 0, none⟩ 1 cap [.string r] hx rfl (cell_byte_new _ _ _) (by simp [Value.oneCell']) (by unfold maxLen; omega) (by omega) (by rw [World.size_alloc]; omega) ?_
  intro v' w' hown hgr hnil
  refine h v' w' ?_ ?_
  · unfold Own
    rw [List.length_append, List.map_append]
    exact hown
  · exact (hb.alloc (by omega) _).grown hgr (by rw [World.size_alloc]; omega) (fun k hk => (World.ownsRow.lt hO k hk).1)
theorem own_mono {B B' : Nat} {w : World} {v : Value} {l : List ByteArray} (h : Own B w v l) (hb : B' ≤ B) : Own B' w v l := by
  unfold Own at h ⊢
  obtain ⟨h1, h2 | ⟨g, cap, cur, e, hB, r⟩⟩ := h
  · exact ⟨h1, .inl h2⟩
  · exact ⟨h1, .inr ⟨g, cap, cur, e, Nat.le_trans hb hB, r⟩⟩
theorem append_run {B : Nat} {w : World} {va vb : Value} {l1 l2 : List ByteArray} (ty : TypeId) (hA : Own B w va l1) (hC : IsStrC w vb l2) (hB : B ≤ w.heap.size) (hl : l1.length + l2.length ≤ 1099511627776) :
    ∃ v' w', (Builtin.append_ #[22, 22] ty #[va, vb]).run Tryz.prog w = .ok v' w' ∧ Own B w' v' (l1 ++ l2) ∧ w.grownBy w' va.ownBlock := by
  obtain ⟨it, hti, hz0, hz1, hz2⟩ : ∃ i, Tryz.prog.info? 9 = some i ∧ i.zero = some (.string ByteArray.empty) ∧ i.size = 1 ∧ i.bytes = 16 := info_parts (by kernel_rfl)
  obtain ⟨ao, cap, rfl, hlc, hcm, hcells⟩ := hC
  cases ao with
  | none =>
    have hn : l2 = [] := by
      cases l2 with
      | nil => rfl
      | cons x r => obtain ⟨b, o, e, _⟩ := hcells 0 (by simp); cases e
    subst hn
    refine ⟨va, w, ?_, by simpa using hA, World.grownBy.refl w _⟩
    have hown : w.ownsRow B 9 1 va l1.length (l1.map Value.string) := hA
    rcases hown.2 with ⟨rfl, he⟩ | ⟨g, cp, cur, rfl, _, _, hnc, _⟩
    · simp [Builtin.append_, run_underlying Tryz.underlying22, sizeOf, typeInfo, hti, Builtin.lenOf, Builtin.firstCells]
    · simp [Builtin.append_, run_underlying Tryz.underlying22, sizeOf, typeInfo, hti, Builtin.lenOf, Builtin.firstCells, hnc, storeCells]
  | some ad =>
    obtain ⟨v', w', hr, h2, h3, h4⟩ := run_append_own (P := Tryz.prog) w B 22 ty 9 it (.string ByteArray.empty) 1 16 Tryz.underlying22 hti hz0 hz1 hz2 rfl (by decide) va l1.length (l1.map Value.string) hA ad l2.length cap (l2.map Value.string) (by simp) (fun j u hj => by
      have hjl : j < l2.length := by
        have := (List.getElem?_eq_some_iff.1 hj).1
        simpa using this
      obtain ⟨b, o, e, hlt, hc⟩ := hcells j hjl
      cases e
      rw [Lib.add_plain]
      rw [hc]
      rw [← hj]
      simp [List.getD, hjl]) (fun u hu => by obtain ⟨s, _, rfl⟩ := List.mem_map.1 hu; rfl) (by unfold maxLen; omega) (by omega) hB
    refine ⟨v', w', hr, ?_, h3⟩
    unfold Own
    rw [List.length_append, List.map_append]
    exact h2
theorem own_block {B : Nat} {w : World} {v : Value} {l : List ByteArray} (h : Own B w v l) (k : Nat) (hk : v.ownBlock = some k) : B ≤ k ∧ k < w.heap.size := World.ownsRow.lt h k hk
/-- append(va, vb...), at any operation that is wanted -/
theorem wp_appS {o : Oper} {a : Act} {K : Act → World → Prop} {Q : Exit → Act → World → Prop} (s x : Operand)
    (ho : o.op = .call { callee := .builtin .append, args := #[s, x], argTypes := #[22, 22] })
    {B : Nat} {w0 w : World} {va vb : Value} {l1 l2 : List ByteArray} (hs : a.eval s = va) (hx : a.eval x = vb) (hA : Own B w va l1) (hC : IsStrC w vb l2) (hb : Below B w0 w) (hB : B ≤ w0.heap.size) (hl : l1.length + l2.length ≤ 1099511627776)
    (h : ∀ v' w', Own B w' v' (l1 ++ l2) → Below B w0 w' → K (a.put o.dst v') w') : o.wp Tryz.prog a w K Q := by
  obtain ⟨v', w', hr, h2, h3⟩ := append_run o.type hA hC (Nat.le_trans hB hb.size) hl
  unfold Oper.wp execOp
  simp only [ho, resolve, invoke, builtin, Sem.run_bind, Sem.run_pure, Result.andThen_ok, List.map_toArray, List.map_cons, List.map_nil, hs, hx, hr]
  exact h v' w' h2 (hb.grown h3 (Nat.le_trans hB hb.size) (fun k hk => (own_block hA k hk).1))
theorem appS {ops : Array Oper} {rest : List Oper} {o : Oper} {a : Act} {Q : Exit → Act → World → Prop} (hw : Region.wanted o (yielded ops a.tmps) = true) (s x : Operand)
    (ho : o.op = .call { callee := .builtin .append, args := #[s, x], argTypes := #[22, 22] })
    {B : Nat} {w0 w : World} {va vb : Value} {l1 l2 : List ByteArray} (hs : a.eval s = va) (hx : a.eval x = vb) (hA : Own B w va l1) (hC : IsStrC w vb l2) (hb : Below B w0 w) (hB : B ≤ w0.heap.size) (hl : l1.length + l2.length ≤ 1099511627776)
    (h : ∀ v' w', Own B w' v' (l1 ++ l2) → Below B w0 w' → wpList Tryz.prog ops Q rest (a.put o.dst v') w') :
    wpList Tryz.prog ops Q (o :: rest) a w := by
  unfold wpList
  rw [if_pos hw]
  exact .inl (wp_appS s x ho hs hx hA hC hb hB hl h)
end Go.Proofs.YtpogffdbencfnaaGreatDoor
