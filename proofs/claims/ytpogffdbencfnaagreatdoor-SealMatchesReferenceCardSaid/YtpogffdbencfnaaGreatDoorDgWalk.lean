import Derived.Test.YtpogffdbencfnaaGreatDoorDgBlocks
set_option linter.unusedVariables false
namespace Go.Proofs.YtpogffdbencfnaaGreatDoor
open Go Go.RowKit

theorem StAt.grown {b g : Nat} {x : BitVec 64} {w0 w w' : World} (h : StAt b x w0 w) (hg : w.grownBy w' (some g)) (hgb : b < g) (hs : w'.heap.size = w.heap.size) : StAt b x w0 w' := by
  have hb : w'.heap[b]? = w.heap[b]? := hg.block b h.lt (by simp; omega)
  refine ⟨⟨hg.os.trans h.below.os, hg.tape.trans h.below.tape, hg.output.trans h.below.output, by rw [hs]; exact h.below.size, fun k hk => ?_⟩, by rw [hs]; exact h.lt, ?_, ?_⟩
  · rw [hg.block k (by have := h.lt; omega) (by simp; omega)]; exact h.below.block k hk
  · rw [World.cell?_of_block hb]; exact h.cell
  · rw [World.frozen?_of_block hb]; exact h.frozen
theorem byteAt_extract (t : ByteArray) (f i : Nat) : byteAt (t.extract f t.size).data.toList i = byteAt t.data.toList (f + i) := by
  unfold byteAt
  rw [ByteArray.data_extract, Array.toList_extract]
  simp only [List.extract_eq_take_drop]
  by_cases h : i < t.size - f
  · rw [List.getElem?_take_of_lt h, List.getElem?_drop]
  · rw [List.getElem?_eq_none (by simp; omega), List.getElem?_eq_none (by have := Lib.size_eq t; omega)]
set_option maxRecDepth 100000 in
theorem blocks_calls (t : ByteArray) (ht : t.size ≤ 4611686018427387904) (b : Nat) (w0 w : World) (h : StAt b (st t.data.toList 0) w0 w) :
    Calls Tryz.prog 79 #[.string t, .func (Fn.func 80) #[.pointer (some ⟨b, 0, none⟩)] #[]] w fun e w' =>
      e = .returned (.tuple #[]) ∧ StAt b (endSt t.data.toList) w0 w' := by
  have H := Lib.hid h
  clear h
  go_enter Tryz.func79, Tryz.ntmps79
  go_wp2_with fail
  go_loopw [4] (fun vf W => ∃ j : Nat, vf = .int .i64 ((8 * j : Nat) : Int) ∧ 8 * j ≤ t.size + 8 ∧ Hid (StAt b (st t.data.toList j) w0 W)) (fun vf _ => t.size + 9 - (RowKit.intOf vf).toNat)
  case atStart => exact ⟨0, rfl, by omega, H⟩
  case round =>
    obtain ⟨j, rfl, hj, HS⟩ := hrel
    clear H
    by_cases hjl : 8 * j ≤ t.size
    · obtain ⟨f, hf⟩ : ∃ f, f = 8 * j := ⟨_, rfl⟩
      rw [← hf]
      have hfl : f ≤ t.size := by omega
      have HF := Lib.hid hf
      clear hf hj hjl
      go_wp2_with fail
      have HB : Hid ((wr.alloc (.cells (cells8 fun _ => 0) 104)).drew.heap[wr.heap.size]? = some (.cells (cells8 fun _ => 0) 104 (0, 0))) := heap_alloc_new wr _
      have HN : Hid (StAt b (st t.data.toList j) w0 (wr.alloc (.cells (cells8 fun _ => 0) 104))) := Lib.hid (HS.out.alloc _)
      show Code.wp _ _ _ _ (wr.alloc (.cells (cells8 fun _ => 0) 104))
      generalize hW1 : (wr.alloc (.cells (cells8 fun _ => 0) 104)) = W1 at *
      go_cut [16] from 12 (fun _ w2 => ∃ u : ByteArray, u = t.extract f t.size ∧ w2.heap[wr.heap.size]? = some (.cells (cells8 fun i => byteAt u.data.toList i) 104 (0, 0)) ∧ W1.grownBy w2 (some wr.heap.size) ∧ w2.heap.size = W1.heap.size)
      case first =>
        go_region_law (refine step_copy8 rfl (.tmp 12) (.tmp 15) rfl wr.heap.size 8 rfl _ rfl HB.out ?_; intro v w6 hg6 hgr6 hsz6)
        all_goals (go_wp2_with fail; go_meet; exact ⟨_, rfl, hg6, ⟨hgr6.os, hgr6.tape, hgr6.output, hgr6.size, hgr6.block⟩, by rw [hsz6]; rfl⟩)
      case rest =>
        obtain ⟨u, hu, hg6, hgr6, hsz6⟩ := hcut
        have hbl := HS.out.lt
        have HS2 := Lib.hid (HN.out.grown hgr6 hbl hsz6)
        have HU : Hid (blkF (fun i => byteAt u.data.toList i) 8 = blk t.data.toList (8 * j) 8) := by
          rw [← HF.out, ← blkF_blk]
          congr 1
          funext i
          rw [hu]; exact byteAt_extract t f i
        have HSz : Hid (wr.heap.size < wc.heap.size) := by
          have : W1.heap.size = wr.heap.size + 1 := by rw [← hW1]; exact World.size_alloc ..
          exact Lib.hid (by omega)
        generalize wr.heap.size = tb at *
        obtain ⟨c, hc⟩ : ∃ c : Nat → Nat, c = fun i => byteAt u.data.toList i := ⟨_, rfl⟩
        rw [← hc] at hg6 HU
        have h256 : Hid (∀ i, c i < 256) := Lib.hid fun i => by rw [hc]; exact byteAt_lt _ _
        clear hc hu HS HB HN hgr6 hsz6
        have hcell : ∀ i, i < 8 → wc.cell? ⟨tb, i, none⟩ = some (.int .u8 (c i : Nat)) := fun i hi => by
          have := cells8_at c i hi
          simp [World.cell?, hg6, this]
        have hc0 := hcell 0 (by decide)
        have hc1 := hcell 1 (by decide)
        have hc2 := hcell 2 (by decide)
        have hc3 := hcell 3 (by decide)
        have hc4 := hcell 4 (by decide)
        have hc5 := hcell 5 (by decide)
        have hc6 := hcell 6 (by decide)
        have hc7 := hcell 7 (by decide)
        clear hcell
        go_wp2_with fail
        refine (take_calls b _ c h256.out w0 wc HS2.out).mono ?_
        rintro e w3 ⟨rfl, h3⟩
        rw [HU.out] at h3
        have H3 : Hid (StAt b (st t.data.toList (j + 1)) w0 w3) := h3
        clear h3 HS2 HU h256 hg6 hc0 hc1 hc2 hc3 hc4 hc5 hc6 hc7
        go_wp2
        go_round
        case rel => exact ⟨j + 1, by rw [HF.out]; congr 1, by have := HF.out; omega, H3⟩
        case measure => simp only [RowKit.intOf]; omega
    · have hje : j = t.size / 8 + 1 := by omega
      have HE : Hid (StAt b (endSt t.data.toList) w0 wr) := by
        have := HS.out
        rw [hje, Lib.size_eq] at this
        exact this
      obtain ⟨f, hf⟩ : ∃ f, f = 8 * j := ⟨_, rfl⟩
      rw [← hf]
      have hfl : t.size < f := by omega
      clear hf hj hjl HS hje
      go_wp2
      go_end0
      exact ⟨rfl, HE.out⟩
end Go.Proofs.YtpogffdbencfnaaGreatDoor
