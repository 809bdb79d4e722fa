import Derived.Test.YtlchpdjpnabeiaaDoorTrRefB
import Derived.Test.YtlchpdjpnabeiaaDoorTrPath
import Derived.Laws.OwnMore
set_option linter.unusedVariables false
namespace Go.Proofs.YtlchpdjpnabeiaaDoor
open Go Go.RowKit

theorem Own.mono {B B' : Nat} {w : World} {v : Value} {l : List ByteArray} (h : Own B w v l) (hB : B' ≤ B) : Own B' w v l := by
  obtain ⟨h1, h2⟩ := h
  refine ⟨h1, ?_⟩
  rcases h2 with h2 | ⟨g, cap, cur, e, hb, r⟩
  · exact .inl h2
  · exact .inr ⟨g, cap, cur, e, Nat.le_trans hB hb, r⟩
theorem own_lit (w : World) (ls : List ByteArray) (hl : ls.length ≤ maxLen) : Own w.heap.size (w.alloc (.cells (ls.map Value.string).toArray 9)) (.slice (some ⟨w.heap.size, 0, none⟩) ls.length ls.length) ls := by
  have := World.ownsRow_lit (e := 9) (size := 1) w (ls.map Value.string).toArray ls.length (Nat.le_refl _) hl (by simp)
  simpa [Own] using this
theorem texts_len (l : List ByteArray) : 0 < (textsT l).length ∧ (textsT l).length + 1 ≤ 2 * max l.length 1 := by
  induction h : l.length using Nat.strongRecOn generalizing l with
  | _ n ih =>
    subst h
    rw [textsT]
    by_cases h1 : l.length ≤ 1
    · rw [dif_pos h1]
      split
      · simp
      · simp only [List.length_cons, List.length_nil]; omega
    · have h2 := half_lt (n := l.length) (by omega)
      have h3 := half_pos (n := l.length) (by omega)
      rw [dif_neg h1]
      have a := ih (half l.length) h2 (l.take (half l.length)) (by rw [List.length_take]; omega)
      have b := ih (l.length - half l.length) (by omega) (l.drop (half l.length)) (by rw [List.length_drop])
      rw [List.length_append, List.length_append, List.length_singleton]
      have e1 : (l.take (half l.length)).length = half l.length := by rw [List.length_take]; omega
      have e2 : (l.drop (half l.length)).length = l.length - half l.length := by rw [List.length_drop]
      omega
theorem ready_wanted {c : Bool} {A B : Prop} (h : c = true) (ha : A) : if c = true then A else B := by rw [if_pos h]; exact ha
theorem Own.shape {B : Nat} {w : World} {v : Value} {l : List ByteArray} (h : Own B w v l) (hl : 0 < l.length) : ∃ g cap, v = .slice (some ⟨g, 0, none⟩) l.length cap ∧ B ≤ g ∧ g < w.heap.size ∧ ∀ (j : Nat) (u : Value), (l.map Value.string)[j]? = some u → w.cell? ((⟨g, 0, none⟩ : Addr).add j) = some u := by
  have hlt := World.ownsRow.lt h
  have hcell := @World.ownsRow.cells _ _ _ _ _ _ _ h
  obtain ⟨h1, ⟨rfl, h2⟩ | ⟨g, cap, cur, rfl, h2, _⟩⟩ := h
  · omega
  · exact ⟨g, cap, rfl, h2, (hlt g rfl).2, hcell rfl⟩
theorem cells_one {w : World} {g : Nat} {v : Value} (h : w.cell? ⟨g, 0, none⟩ = some v) : ∀ (j : Nat) (u : Value), [v][j]? = some u → w.cell? ((⟨g, 0, none⟩ : Addr).add j) = some u := by
  intro j u hj
  match j, hj with
  | 0, hj => simp at hj; subst hj; rw [Lib.add_plain]; exact h
theorem strs_oneCell (l : List ByteArray) : ∀ u ∈ l.map Value.string, u.oneCell' = true := by
  intro u hu
  obtain ⟨s, _, rfl⟩ := List.mem_map.1 hu
  rfl
theorem cell_keep {w : World} (o : Obj) {a : Addr} {v : Value} (h : w.cell? a = some v) : (w.alloc o).cell? a = some v :=
  (World.cell?_of_block (heap_alloc_old w o (World.block_lt_of_cell? w a h))).trans h
set_option maxRecDepth 100000 in
set_option maxHeartbeats 8000000 in
theorem texts_calls (m : Nat) : ∀ (l : List ByteArray) (v : Value) (w : World), l.length = m → IsStrC w v l → (∀ s ∈ l, s.size ≤ 1099511627776) → l.length ≤ 1000000 →
    Calls Tryd.prog 14 #[v] w fun e w' => ∃ v', e = .returned v' ∧ Own w.heap.size w' v' (textsT l) ∧ Below w.heap.size w w' := by
  induction m using Nat.strongRecOn with
  | _ m ih =>
  intro l v w hm hv hs hl
  have HV := Lib.hid hv
  obtain ⟨ao, cap, rfl, hlc, hmax, hcells⟩ := hv
  have HS := Lib.hid hs
  have HC := Lib.hid hcells
  clear hs hcells hmax
  match l, hm, hl, hlc, HV, HS, HC with
  | [], hm, hl, hlc, HV, HS, HC =>
    clear HV HS HC ih
    go_enter Tryd.func14, Tryd.ntmps14
    go_wp2_with fail
    refine (jlit_calls [sEmpty] w (by simp; decide) (by decide : 1 ≤ 30)).mono ?_
    rintro e w1 ⟨rfl, h1⟩
    have HO := Lib.hid (own_lit w1 [jB [sEmpty]] (show 1 ≤ maxLen by decide))
    go_wp2
    go_ret
    exact ⟨_, rfl, by rw [show textsT [] = [jB [sEmpty]] by rw [textsT]; rfl]; exact HO.out.mono h1.size, h1.alloc h1.size _⟩
  | [s], hm, hl, hlc, HV, HS, HC =>
    obtain ⟨b, o, rfl, hlt, hc⟩ := HC.out 0 (show 0 < 1 by decide)
    have hss := HS.out s (by simp)
    have hc : w.cell? ⟨b, o, none⟩ = some (.string s) := hc
    clear HV HS HC ih
    go_enter Tryd.func14, Tryd.ntmps14
    go_wp2_with fail
    refine (jlit_calls [sLeaf, s] w (by simp; exact ⟨by decide, hss⟩) (by decide : 2 ≤ 30)).mono ?_
    rintro e w1 ⟨rfl, h1⟩
    have HO := Lib.hid (own_lit w1 [jB [sLeaf, s]] (show 1 ≤ maxLen by decide))
    go_wp2
    go_ret
    exact ⟨_, rfl, by rw [textsT_one]; exact HO.out.mono h1.size, h1.alloc h1.size _⟩
  | x :: y :: r, hm, hl, hlc, HV, HS, HC =>
    obtain ⟨b, o, rfl, hlt, hc0⟩ := HC.out 0 (by simp)
    clear hc0
    obtain ⟨z, hz⟩ : ∃ z, z = x :: y :: r := ⟨_, rfl⟩
    rw [← hz] at hm hl hlc HV HS HC ⊢
    have h2 : 2 ≤ z.length := by rw [hz]; simp
    clear hz x y r
    have HR := Lib.hid (textsT_many h2)
    have hk1 := half_lt h2
    have hk0 := half_pos h2
    have hsl1 := run_slice_to (b := b) (o := o) (n := z.length) (cap := cap) (k := half z.length) (by omega)
    have hsl2 := run_slice_from (b := b) (o := o) (n := z.length) (cap := cap) (k := half z.length) (by omega) (by omega) (by omega)
    have HV1 := Lib.hid (HV.out.take (half z.length) (by omega))
    have HV2 := Lib.hid (HV.out.drop (half z.length) (by omega))
    have hl1 : (z.take (half z.length)).length = half z.length := by rw [List.length_take]; omega
    have hl2 : (z.drop (half z.length)).length = z.length - half z.length := by rw [List.length_drop]
    have HI1 := Lib.hid (fun w' hb => ih (half z.length) (by omega) (z.take (half z.length)) _ w' hl1 (HV1.out.on hb) (fun s hs => HS.out s (List.mem_of_mem_take hs)) (by omega))
    have HI2 := Lib.hid (fun w' hb => ih (z.length - half z.length) (by omega) (z.drop (half z.length)) _ w' hl2 (HV2.out.on hb) (fun s hs => HS.out s (List.mem_of_mem_drop hs)) (by omega))
    have HR1 := Lib.hid (fun w' hb => rroot_calls (half z.length) (z.take (half z.length)) _ w' hl1 (HV1.out.on hb) (fun s hs => HS.out s (List.mem_of_mem_take hs)) (by omega))
    have HR2 := Lib.hid (fun w' hb => rroot_calls (z.length - half z.length) (z.drop (half z.length)) _ w' hl2 (HV2.out.on hb) (fun s hs => HS.out s (List.mem_of_mem_drop hs)) (by omega))
    have hh := fun W => rhalf_calls z.length h2 (by omega) W
    have ht1 := texts_len (z.take (half z.length))
    have ht2 := texts_len (z.drop (half z.length))
    rw [hl1] at ht1
    rw [hl2] at ht2
    clear ih HV HS HC HV1 HV2 hl1 hl2
    have hr1 := root_size (z.take (half z.length))
    have hr2 := root_size (z.drop (half z.length))
    have hn0 : z.length ≠ 0 := by omega
    have hn1 : z.length ≠ 1 := by omega
    obtain ⟨n, hn⟩ : ∃ n, n = z.length := ⟨_, rfl⟩
    obtain ⟨k, hk⟩ : ∃ k, k = half z.length := ⟨_, rfl⟩
    rw [← hk] at hk1 hk0 hsl1 hsl2 HI1 HI2 HR1 HR2 HR hh hr1 hr2 ht1 ht2
    rw [← hn] at hsl1 hsl2 HI2 HR2 hh hn0 hn1 hk1 ht2 hl ⊢
    generalize rootT (z.take k) = r1 at *
    generalize rootT (z.drop k) = r2 at *
    generalize textsT (z.take k) = t1 at *
    generalize textsT (z.drop k) = t2 at *
    clear hk hn hm hlc h2
    obtain ⟨it, hti, hz0, hz1, hz2⟩ : ∃ i, Tryd.prog.info? 9 = some i ∧ i.zero = some (.string ByteArray.empty) ∧ i.size = 1 ∧ i.bytes = 16 := info_parts (by kernel_rfl)
    have Hi := Lib.hid hti
    have Hz0 := Lib.hid hz0
    have Hz1 := Lib.hid hz1
    have Hz2 := Lib.hid hz2
    clear hti hz0 hz1 hz2
    go_enter Tryd.func14, Tryd.ntmps14
    go_wp2_with fail
    refine (hh _).mono ?_
    rintro e w1 ⟨rfl, rfl⟩
    clear hh
    go_wp2_with fail
    refine wp_region_any (by kernel_rfl) ?_
    change wpAny _ _ _ _ _ _ _ (World.drew _)
    refine wpAny_take (i := 0) (v := .slice (some ⟨b, o, none⟩) n cap) rfl (by kernel_rfl) (by kernel_rfl) (by kernel_rfl) (fun _ _ _ h => h) (Or.inl ⟨by kernel_rfl, fun W => by go_simp⟩) ?_
    refine wpAny_take (i := 1) (v := .int .i64 (k : Int)) rfl (by kernel_rfl) (by kernel_rfl) (by kernel_rfl) (fun _ _ _ h => h) (Or.inl ⟨by kernel_rfl, fun W => by go_simp⟩) ?_
    refine wpAny_take (i := 2) (v := .slice (some ⟨b, o, none⟩) k cap) rfl (by kernel_rfl) (by kernel_rfl) (by kernel_rfl) (fun _ _ _ h => h) (Or.inl ⟨by kernel_rfl, fun W => by go_simp⟩) ?_
    refine wpAny_take (i := 4) (v := .slice (some ⟨b, o, none⟩) n cap) rfl (by kernel_rfl) (by kernel_rfl) (by kernel_rfl) (fun _ _ _ h => h) (Or.inl ⟨by kernel_rfl, fun W => by go_simp⟩) ?_
    refine wpAny_take (i := 5) (v := .int .i64 (k : Int)) rfl (by kernel_rfl) (by kernel_rfl) (by kernel_rfl) (fun _ _ _ h => h) (Or.inl ⟨by kernel_rfl, fun W => by go_simp⟩) ?_
    refine wpAny_take (i := 6) (v := .slice (some ⟨b, o + k, none⟩) (n - k) (cap - k)) rfl (by kernel_rfl) (by kernel_rfl) (by kernel_rfl) (fun _ _ _ h => h) (Or.inl ⟨by kernel_rfl, fun W => by go_simp⟩) ?_
    refine wpAny_ready (rs := [3]) (by kernel_rfl) (by simp) ?_
    refine AllReady.cons rfl (fun K hK => ?_) AllReady.nil
    go_simp
    have hb0 := (Below.refl w1.heap.size w1).drew
    refine (HR1.out _ hb0).mono ?_
    rintro e w2 ⟨rfl, h2⟩
    have H2 := Lib.hid (hb0.trans (h2.mono hb0.size))
    clear h2 hb0
    refine hK _ _ ?_
    clear hK K
    refine wpAny_ready (rs := [7]) (by kernel_rfl) (by simp) ?_
    refine AllReady.cons rfl (fun K hK => ?_) AllReady.nil
    go_simp
    refine (HR2.out _ H2.out).mono ?_
    rintro e w3 ⟨rfl, h3⟩
    have H3 := Lib.hid (H2.out.trans (h3.mono H2.out.size))
    clear h3
    refine hK _ _ ?_
    clear hK K
    refine wpAny_ready (rs := [8]) (by kernel_rfl) (by simp) ?_
    refine AllReady.cons rfl (fun K hK => ?_) AllReady.nil
    go_simp
    refine hK _ _ ?_
    clear hK K
    refine wpAny_ready (rs := [9]) (by kernel_rfl) (by simp) ?_
    refine AllReady.cons rfl (fun K hK => ?_) AllReady.nil
    go_simp
    refine (jlit_calls [sNode, r1, r2] w3 (by simp; exact ⟨by decide, by omega, by omega⟩) (by decide : 3 ≤ 30)).mono ?_
    rintro e w4 ⟨rfl, h4⟩
    have H4 := Lib.hid (H3.out.trans (h4.mono H3.out.size))
    clear h4
    generalize jB [sNode, r1, r2] = own at *
    refine hK _ _ ?_
    clear hK K
    refine wpAny_take (i := 10) (v := .string own) rfl (by kernel_rfl) (by kernel_rfl) (by kernel_rfl) (fun _ _ _ h => h) (Or.inl ⟨by kernel_rfl, fun W => by go_simp⟩) ?_
    refine wpAny_done (by kernel_rfl) ?_ _
    go_wp2_with fail
    have H := Lib.hid H4.out.drew
    clear H4 H3 H2
    refine wp_region_any (by kernel_rfl) ?_
    change wpAny _ _ _ _ _ _ _ (World.drew _)
    generalize w4.drew = w5 at *
    refine wpAny_take (i := 0) (v := .slice (some ⟨b, o, none⟩) n cap) rfl (by kernel_rfl) (by kernel_rfl) (by kernel_rfl) (fun _ _ _ h => h) (Or.inl ⟨by kernel_rfl, fun W => by go_simp⟩) ?_
    refine wpAny_take (i := 1) (v := .int .i64 (k : Int)) rfl (by kernel_rfl) (by kernel_rfl) (by kernel_rfl) (fun _ _ _ h => h) (Or.inl ⟨by kernel_rfl, fun W => by go_simp⟩) ?_
    refine wpAny_take (i := 2) (v := .slice (some ⟨b, o, none⟩) k cap) rfl (by kernel_rfl) (by kernel_rfl) (by kernel_rfl) (fun _ _ _ h => h) (Or.inl ⟨by kernel_rfl, fun W => by go_simp⟩) ?_
    refine wpAny_take (i := 4) (v := .slice (some ⟨b, o, none⟩) n cap) rfl (by kernel_rfl) (by kernel_rfl) (by kernel_rfl) (fun _ _ _ h => h) (Or.inl ⟨by kernel_rfl, fun W => by go_simp⟩) ?_
    refine wpAny_take (i := 5) (v := .int .i64 (k : Int)) rfl (by kernel_rfl) (by kernel_rfl) (by kernel_rfl) (fun _ _ _ h => h) (Or.inl ⟨by kernel_rfl, fun W => by go_simp⟩) ?_
    refine wpAny_take (i := 6) (v := .slice (some ⟨b, o + k, none⟩) (n - k) (cap - k)) rfl (by kernel_rfl) (by kernel_rfl) (by kernel_rfl) (fun _ _ _ h => h) (Or.inl ⟨by kernel_rfl, fun W => by go_simp⟩) ?_
    refine wpAny_take (i := 9) (v := .string own) rfl (by kernel_rfl) (by kernel_rfl) (by kernel_rfl) (fun _ _ _ h => h) (Or.inl ⟨by kernel_rfl, fun W => by go_simp⟩) ?_
    refine wpAny_ready (rs := [3, 10]) (by kernel_rfl) (by simp) ?_
    refine AllReady.cons rfl (fun K hK => ?_) (AllReady.cons rfl (fun K hK => ?_) AllReady.nil)
    · go_simp
      refine (HI1.out _ H.out).mono ?_
      rintro e wA ⟨va, rfl, hA, hb⟩
      have HA := Lib.hid (hA.mono H.out.size)
      have Hn := Lib.hid (H.out.trans (hb.mono H.out.size))
      clear hA hb H
      have H := Hn
      clear Hn
      refine hK _ _ ?_
      clear hK K
      refine wpAny_ready (rs := [7, 10]) (by kernel_rfl) (by simp) ?_
      refine AllReady.cons rfl (fun K hK => ?_) (AllReady.cons rfl (fun K hK => ?_) AllReady.nil)
      · go_simp
        refine (HI2.out _ H.out).mono ?_
        rintro e wB ⟨vb, rfl, hB, hb⟩
        obtain ⟨gb, capb, rfl, _, _, hcb⟩ := hB.shape ht2.1
        have HCB := Lib.hid hcb
        have HAn : Hid (Own w1.heap.size wB va t1) := Lib.hid (HA.out.on hb)
        have Hn := Lib.hid (H.out.trans (hb.mono H.out.size))
        clear hB hb hcb
        clear HA
        have HA := HAn
        clear HAn
        clear H
        have H := Hn
        clear Hn
        refine hK _ _ ?_
        clear hK K
        refine wpAny_ready (rs := [8, 10]) (by kernel_rfl) (by simp) ?_
        refine AllReady.cons rfl (fun K hK => ?_) (AllReady.cons rfl (fun K hK => ?_) AllReady.nil)
        · refine ready_wanted (by kernel_rfl) ?_
          refine wp_append_own _ (.tmp 36) (.tmp 40) 22 rfl w1.heap.size 9 it (.string ByteArray.empty) 1 16 Tryd.underlying22 Hi.out Hz0.out Hz1.out Hz2.out rfl (by decide) va t1.length (t1.map Value.string) (by kernel_rfl) HA.out ⟨gb, 0, none⟩ t2.length capb (t2.map Value.string) (by kernel_rfl) (by rw [List.length_map]; omega) HCB.out (strs_oneCell t2) (by unfold maxLen; omega) (by omega) H.out.size ?_
          intro vab wC hown hgr hnil
          have HAB : Hid (Own w1.heap.size wC vab (t1 ++ t2)) := by unfold Own; rw [List.length_append, List.map_append]; exact Lib.hid hown
          have Hn : Hid (Below w1.heap.size w1 wC) := Lib.hid (H.out.grown hgr H.out.size (fun k hk => (World.ownsRow.lt HA.out k hk).1))
          clear hown hgr hnil HCB HA
          clear H
          have H := Hn
          clear Hn
          refine hK _ _ ?_
          clear hK K
          refine wpAny_ready (rs := [10]) (by kernel_rfl) (by simp) ?_
          refine AllReady.cons rfl (fun K hK => ?_) AllReady.nil
          go_simp
          refine hK _ _ ?_
          clear hK K
          have Hn : Hid (Below w1.heap.size w1 (wC.alloc (.cells #[.string own] 9))) := Lib.hid (H.out.alloc H.out.size _)
          have HG : Hid ((wC.alloc (.cells #[.string own] 9)).cell? ⟨wC.heap.size, 0, none⟩ = some (.string own)) := Lib.hid (by rw [World.cell?_alloc_new]; rfl)
          have hgl : wC.heap.size < (wC.alloc (.cells #[.string own] 9)).heap.size := by rw [World.size_alloc]; omega
          have HABn : Hid (Own w1.heap.size (wC.alloc (.cells #[.string own] 9)) vab (t1 ++ t2)) := Lib.hid (HAB.out.on ((Below.refl _ _).alloc (Nat.le_refl _) _))
          clear H
          have H := Hn
          clear Hn
          clear HAB
          have HAB := HABn
          clear HABn
          generalize wC.alloc (.cells #[.string own] 9) = wG at *
          generalize wC.heap.size = g at *
          refine wpAny_ready (rs := [11]) (by kernel_rfl) (by simp) ?_
          refine AllReady.cons rfl (fun K hK => ?_) AllReady.nil
          refine ready_wanted (by kernel_rfl) ?_
          refine wp_append_own _ (.tmp 41) (.tmp 43) 22 rfl w1.heap.size 9 it (.string ByteArray.empty) 1 16 Tryd.underlying22 Hi.out Hz0.out Hz1.out Hz2.out rfl (by decide) vab (t1 ++ t2).length ((t1 ++ t2).map Value.string) (by kernel_rfl) HAB.out ⟨g, 0, none⟩ 1 1 [.string own] (by kernel_rfl) rfl (cells_one HG.out) (by simp [Value.oneCell']) (by unfold maxLen; rw [List.length_append]; omega) (by rw [List.length_append]; omega) H.out.size ?_
          intro vr wD hown hgr hnil
          have HD : Hid (Own w1.heap.size wD vr (t1 ++ t2 ++ [own])) := by unfold Own; rw [List.length_append, List.map_append]; exact Lib.hid hown
          have Hn : Hid (Below w1.heap.size w1 wD) := Lib.hid (H.out.grown hgr H.out.size (fun k hk => (World.ownsRow.lt HAB.out k hk).1))
          clear hown hgr hnil
          clear H
          have H := Hn
          clear Hn
          refine hK _ _ ?_
          clear hK K
          refine wpAny_take (i := 12) (v := vr) rfl (by kernel_rfl) (by kernel_rfl) (by kernel_rfl) (fun _ _ _ h => h) (Or.inl ⟨by kernel_rfl, fun W => by go_simp⟩) ?_
          refine wpAny_done (by kernel_rfl) ?_ _
          go_wp2
          go_ret
          exact ⟨_, rfl, by rw [HR.out]; exact HD.out, H.out⟩
        · go_simp
          refine hK _ _ ?_
          clear hK K
          have Hn : Hid (Below w1.heap.size w1 (wB.alloc (.cells #[.string own] 9))) := Lib.hid (H.out.alloc H.out.size _)
          have HG : Hid ((wB.alloc (.cells #[.string own] 9)).cell? ⟨wB.heap.size, 0, none⟩ = some (.string own)) := Lib.hid (by rw [World.cell?_alloc_new]; rfl)
          have hgl : wB.heap.size < (wB.alloc (.cells #[.string own] 9)).heap.size := by rw [World.size_alloc]; omega
          have HAn : Hid (Own w1.heap.size (wB.alloc (.cells #[.string own] 9)) va t1) := Lib.hid (HA.out.on ((Below.refl _ _).alloc (Nat.le_refl _) _))
          have HN : Hid (∀ x, va.ownBlock = some x → x ≠ wB.heap.size) := Lib.hid fun x hx => by have := (World.ownsRow.lt HA.out x hx).2; omega
          have HCBn : Hid (∀ (j : Nat) (u : Value), (t2.map Value.string)[j]? = some u → (wB.alloc (.cells #[.string own] 9)).cell? ((⟨gb, 0, none⟩ : Addr).add j) = some u) := Lib.hid fun j u hj => cell_keep _ (HCB.out j u hj)
          clear H
          have H := Hn
          clear Hn
          clear HA
          have HA := HAn
          clear HAn
          clear HCB
          have HCB := HCBn
          clear HCBn
          generalize wB.alloc (.cells #[.string own] 9) = wG at *
          generalize wB.heap.size = g at *
          refine wpAny_ready (rs := [8]) (by kernel_rfl) (by simp) ?_
          refine AllReady.cons rfl (fun K hK => ?_) AllReady.nil
          refine ready_wanted (by kernel_rfl) ?_
          refine wp_append_own _ (.tmp 36) (.tmp 40) 22 rfl w1.heap.size 9 it (.string ByteArray.empty) 1 16 Tryd.underlying22 Hi.out Hz0.out Hz1.out Hz2.out rfl (by decide) va t1.length (t1.map Value.string) (by kernel_rfl) HA.out ⟨gb, 0, none⟩ t2.length capb (t2.map Value.string) (by kernel_rfl) (by rw [List.length_map]; omega) HCB.out (strs_oneCell t2) (by unfold maxLen; omega) (by omega) H.out.size ?_
          intro vab wC hown hgr hnil
          have HAB : Hid (Own w1.heap.size wC vab (t1 ++ t2)) := by unfold Own; rw [List.length_append, List.map_append]; exact Lib.hid hown
          have Hn : Hid (Below w1.heap.size w1 wC) := Lib.hid (H.out.grown hgr H.out.size (fun k hk => (World.ownsRow.lt HA.out k hk).1))
          have HGn : Hid (wC.cell? ⟨g, 0, none⟩ = some (.string own)) := Lib.hid ((World.cell?_of_block (hgr.block g hgl (fun e => HN.out g e.symm rfl))).trans HG.out)
          have hgln : g < wC.heap.size := Nat.lt_of_lt_of_le hgl hgr.size
          clear HG
          have HG := HGn
          clear HGn
          clear hgl
          have hgl := hgln
          clear hgln
          clear hown hgr hnil HCB HA
          clear H
          have H := Hn
          clear Hn
          refine hK _ _ ?_
          clear hK K
          refine wpAny_ready (rs := [11]) (by kernel_rfl) (by simp) ?_
          refine AllReady.cons rfl (fun K hK => ?_) AllReady.nil
          refine ready_wanted (by kernel_rfl) ?_
          refine wp_append_own _ (.tmp 41) (.tmp 43) 22 rfl w1.heap.size 9 it (.string ByteArray.empty) 1 16 Tryd.underlying22 Hi.out Hz0.out Hz1.out Hz2.out rfl (by decide) vab (t1 ++ t2).length ((t1 ++ t2).map Value.string) (by kernel_rfl) HAB.out ⟨g, 0, none⟩ 1 1 [.string own] (by kernel_rfl) rfl (cells_one HG.out) (by simp [Value.oneCell']) (by unfold maxLen; rw [List.length_append]; omega) (by rw [List.length_append]; omega) H.out.size ?_
          intro vr wD hown hgr hnil
          have HD : Hid (Own w1.heap.size wD vr (t1 ++ t2 ++ [own])) := by unfold Own; rw [List.length_append, List.map_append]; exact Lib.hid hown
          have Hn : Hid (Below w1.heap.size w1 wD) := Lib.hid (H.out.grown hgr H.out.size (fun k hk => (World.ownsRow.lt HAB.out k hk).1))
          clear hown hgr hnil
          clear H
          have H := Hn
          clear Hn
          refine hK _ _ ?_
          clear hK K
          refine wpAny_take (i := 12) (v := vr) rfl (by kernel_rfl) (by kernel_rfl) (by kernel_rfl) (fun _ _ _ h => h) (Or.inl ⟨by kernel_rfl, fun W => by go_simp⟩) ?_
          refine wpAny_done (by kernel_rfl) ?_ _
          go_wp2
          go_ret
          exact ⟨_, rfl, by rw [HR.out]; exact HD.out, H.out⟩
      · go_simp
        refine hK _ _ ?_
        clear hK K
        have Hn : Hid (Below w1.heap.size w1 (wA.alloc (.cells #[.string own] 9))) := Lib.hid (H.out.alloc H.out.size _)
        have HG : Hid ((wA.alloc (.cells #[.string own] 9)).cell? ⟨wA.heap.size, 0, none⟩ = some (.string own)) := Lib.hid (by rw [World.cell?_alloc_new]; rfl)
        have hgl : wA.heap.size < (wA.alloc (.cells #[.string own] 9)).heap.size := by rw [World.size_alloc]; omega
        have HAn : Hid (Own w1.heap.size (wA.alloc (.cells #[.string own] 9)) va t1) := Lib.hid (HA.out.on ((Below.refl _ _).alloc (Nat.le_refl _) _))
        have HN : Hid (∀ x, va.ownBlock = some x → x ≠ wA.heap.size) := Lib.hid fun x hx => by have := (World.ownsRow.lt HA.out x hx).2; omega
        clear H
        have H := Hn
        clear Hn
        clear HA
        have HA := HAn
        clear HAn
        generalize wA.alloc (.cells #[.string own] 9) = wG at *
        generalize wA.heap.size = g at *
        refine wpAny_ready (rs := [7]) (by kernel_rfl) (by simp) ?_
        refine AllReady.cons rfl (fun K hK => ?_) AllReady.nil
        go_simp
        refine (HI2.out _ H.out).mono ?_
        rintro e wB ⟨vb, rfl, hB, hb⟩
        obtain ⟨gb, capb, rfl, _, _, hcb⟩ := hB.shape ht2.1
        have HCB := Lib.hid hcb
        have HAn : Hid (Own w1.heap.size wB va t1) := Lib.hid (HA.out.on hb)
        have Hn := Lib.hid (H.out.trans (hb.mono H.out.size))
        have HGn : Hid (wB.cell? ⟨g, 0, none⟩ = some (.string own)) := Lib.hid ((hb.cell (p := ⟨g, 0, none⟩) hgl).trans HG.out)
        have hgln : g < wB.heap.size := Nat.lt_of_lt_of_le hgl hb.size
        clear HG
        have HG := HGn
        clear HGn
        clear hgl
        have hgl := hgln
        clear hgln
        clear hB hb hcb
        clear HA
        have HA := HAn
        clear HAn
        clear H
        have H := Hn
        clear Hn
        refine hK _ _ ?_
        clear hK K
        refine wpAny_ready (rs := [8]) (by kernel_rfl) (by simp) ?_
        refine AllReady.cons rfl (fun K hK => ?_) AllReady.nil
        refine ready_wanted (by kernel_rfl) ?_
        refine wp_append_own _ (.tmp 36) (.tmp 40) 22 rfl w1.heap.size 9 it (.string ByteArray.empty) 1 16 Tryd.underlying22 Hi.out Hz0.out Hz1.out Hz2.out rfl (by decide) va t1.length (t1.map Value.string) (by kernel_rfl) HA.out ⟨gb, 0, none⟩ t2.length capb (t2.map Value.string) (by kernel_rfl) (by rw [List.length_map]; omega) HCB.out (strs_oneCell t2) (by unfold maxLen; omega) (by omega) H.out.size ?_
        intro vab wC hown hgr hnil
        have HAB : Hid (Own w1.heap.size wC vab (t1 ++ t2)) := by unfold Own; rw [List.length_append, List.map_append]; exact Lib.hid hown
        have Hn : Hid (Below w1.heap.size w1 wC) := Lib.hid (H.out.grown hgr H.out.size (fun k hk => (World.ownsRow.lt HA.out k hk).1))
        have HGn : Hid (wC.cell? ⟨g, 0, none⟩ = some (.string own)) := Lib.hid ((World.cell?_of_block (hgr.block g hgl (fun e => HN.out g e.symm rfl))).trans HG.out)
        have hgln : g < wC.heap.size := Nat.lt_of_lt_of_le hgl hgr.size
        clear HG
        have HG := HGn
        clear HGn
        clear hgl
        have hgl := hgln
        clear hgln
        clear hown hgr hnil HCB HA
        clear H
        have H := Hn
        clear Hn
        refine hK _ _ ?_
        clear hK K
        refine wpAny_ready (rs := [11]) (by kernel_rfl) (by simp) ?_
        refine AllReady.cons rfl (fun K hK => ?_) AllReady.nil
        refine ready_wanted (by kernel_rfl) ?_
        refine wp_append_own _ (.tmp 41) (.tmp 43) 22 rfl w1.heap.size 9 it (.string ByteArray.empty) 1 16 Tryd.underlying22 Hi.out Hz0.out Hz1.out Hz2.out rfl (by decide) vab (t1 ++ t2).length ((t1 ++ t2).map Value.string) (by kernel_rfl) HAB.out ⟨g, 0, none⟩ 1 1 [.string own] (by kernel_rfl) rfl (cells_one HG.out) (by simp [Value.oneCell']) (by unfold maxLen; rw [List.length_append]; omega) (by rw [List.length_append]; omega) H.out.size ?_
        intro vr wD hown hgr hnil
        have HD : Hid (Own w1.heap.size wD vr (t1 ++ t2 ++ [own])) := by unfold Own; rw [List.length_append, List.map_append]; exact Lib.hid hown
        have Hn : Hid (Below w1.heap.size w1 wD) := Lib.hid (H.out.grown hgr H.out.size (fun k hk => (World.ownsRow.lt HAB.out k hk).1))
        clear hown hgr hnil
        clear H
        have H := Hn
        clear Hn
        refine hK _ _ ?_
        clear hK K
        refine wpAny_take (i := 12) (v := vr) rfl (by kernel_rfl) (by kernel_rfl) (by kernel_rfl) (fun _ _ _ h => h) (Or.inl ⟨by kernel_rfl, fun W => by go_simp⟩) ?_
        refine wpAny_done (by kernel_rfl) ?_ _
        go_wp2
        go_ret
        exact ⟨_, rfl, by rw [HR.out]; exact HD.out, H.out⟩
    · go_simp
      refine hK _ _ ?_
      clear hK K
      have Hn : Hid (Below w1.heap.size w1 (w5.alloc (.cells #[.string own] 9))) := Lib.hid (H.out.alloc H.out.size _)
      have HG : Hid ((w5.alloc (.cells #[.string own] 9)).cell? ⟨w5.heap.size, 0, none⟩ = some (.string own)) := Lib.hid (by rw [World.cell?_alloc_new]; rfl)
      have hgl : w5.heap.size < (w5.alloc (.cells #[.string own] 9)).heap.size := by rw [World.size_alloc]; omega
      clear H
      have H := Hn
      clear Hn
      generalize w5.alloc (.cells #[.string own] 9) = wG at *
      generalize w5.heap.size = g at *
      refine wpAny_ready (rs := [3]) (by kernel_rfl) (by simp) ?_
      refine AllReady.cons rfl (fun K hK => ?_) AllReady.nil
      go_simp
      refine (HI1.out _ H.out).mono ?_
      rintro e wA ⟨va, rfl, hA, hb⟩
      have HA := Lib.hid (hA.mono H.out.size)
      have Hn := Lib.hid (H.out.trans (hb.mono H.out.size))
      have HGn : Hid (wA.cell? ⟨g, 0, none⟩ = some (.string own)) := Lib.hid ((hb.cell (p := ⟨g, 0, none⟩) hgl).trans HG.out)
      have HN : Hid (∀ x, va.ownBlock = some x → x ≠ g) := Lib.hid fun x hx => by have := (World.ownsRow.lt hA x hx).1; omega
      have hgln : g < wA.heap.size := Nat.lt_of_lt_of_le hgl hb.size
      clear HG
      have HG := HGn
      clear HGn
      clear hgl
      have hgl := hgln
      clear hgln
      clear hA hb H
      have H := Hn
      clear Hn
      refine hK _ _ ?_
      clear hK K
      refine wpAny_ready (rs := [7]) (by kernel_rfl) (by simp) ?_
      refine AllReady.cons rfl (fun K hK => ?_) AllReady.nil
      go_simp
      refine (HI2.out _ H.out).mono ?_
      rintro e wB ⟨vb, rfl, hB, hb⟩
      obtain ⟨gb, capb, rfl, _, _, hcb⟩ := hB.shape ht2.1
      have HCB := Lib.hid hcb
      have HAn : Hid (Own w1.heap.size wB va t1) := Lib.hid (HA.out.on hb)
      have Hn := Lib.hid (H.out.trans (hb.mono H.out.size))
      have HGn : Hid (wB.cell? ⟨g, 0, none⟩ = some (.string own)) := Lib.hid ((hb.cell (p := ⟨g, 0, none⟩) hgl).trans HG.out)
      have hgln : g < wB.heap.size := Nat.lt_of_lt_of_le hgl hb.size
      clear HG
      have HG := HGn
      clear HGn
      clear hgl
      have hgl := hgln
      clear hgln
      clear hB hb hcb
      clear HA
      have HA := HAn
      clear HAn
      clear H
      have H := Hn
      clear Hn
      refine hK _ _ ?_
      clear hK K
      refine wpAny_ready (rs := [8]) (by kernel_rfl) (by simp) ?_
      refine AllReady.cons rfl (fun K hK => ?_) AllReady.nil
      refine ready_wanted (by kernel_rfl) ?_
      refine wp_append_own _ (.tmp 36) (.tmp 40) 22 rfl w1.heap.size 9 it (.string ByteArray.empty) 1 16 Tryd.underlying22 Hi.out Hz0.out Hz1.out Hz2.out rfl (by decide) va t1.length (t1.map Value.string) (by kernel_rfl) HA.out ⟨gb, 0, none⟩ t2.length capb (t2.map Value.string) (by kernel_rfl) (by rw [List.length_map]; omega) HCB.out (strs_oneCell t2) (by unfold maxLen; omega) (by omega) H.out.size ?_
      intro vab wC hown hgr hnil
      have HAB : Hid (Own w1.heap.size wC vab (t1 ++ t2)) := by unfold Own; rw [List.length_append, List.map_append]; exact Lib.hid hown
      have Hn : Hid (Below w1.heap.size w1 wC) := Lib.hid (H.out.grown hgr H.out.size (fun k hk => (World.ownsRow.lt HA.out k hk).1))
      have HGn : Hid (wC.cell? ⟨g, 0, none⟩ = some (.string own)) := Lib.hid ((World.cell?_of_block (hgr.block g hgl (fun e => HN.out g e.symm rfl))).trans HG.out)
      have hgln : g < wC.heap.size := Nat.lt_of_lt_of_le hgl hgr.size
      clear HG
      have HG := HGn
      clear HGn
      clear hgl
      have hgl := hgln
      clear hgln
      clear hown hgr hnil HCB HA
      clear H
      have H := Hn
      clear Hn
      refine hK _ _ ?_
      clear hK K
      refine wpAny_ready (rs := [11]) (by kernel_rfl) (by simp) ?_
      refine AllReady.cons rfl (fun K hK => ?_) AllReady.nil
      refine ready_wanted (by kernel_rfl) ?_
      refine wp_append_own _ (.tmp 41) (.tmp 43) 22 rfl w1.heap.size 9 it (.string ByteArray.empty) 1 16 Tryd.underlying22 Hi.out Hz0.out Hz1.out Hz2.out rfl (by decide) vab (t1 ++ t2).length ((t1 ++ t2).map Value.string) (by kernel_rfl) HAB.out ⟨g, 0, none⟩ 1 1 [.string own] (by kernel_rfl) rfl (cells_one HG.out) (by simp [Value.oneCell']) (by unfold maxLen; rw [List.length_append]; omega) (by rw [List.length_append]; omega) H.out.size ?_
      intro vr wD hown hgr hnil
      have HD : Hid (Own w1.heap.size wD vr (t1 ++ t2 ++ [own])) := by unfold Own; rw [List.length_append, List.map_append]; exact Lib.hid hown
      have Hn : Hid (Below w1.heap.size w1 wD) := Lib.hid (H.out.grown hgr H.out.size (fun k hk => (World.ownsRow.lt HAB.out k hk).1))
      clear hown hgr hnil
      clear H
      have H := Hn
      clear Hn
      refine hK _ _ ?_
      clear hK K
      refine wpAny_take (i := 12) (v := vr) rfl (by kernel_rfl) (by kernel_rfl) (by kernel_rfl) (fun _ _ _ h => h) (Or.inl ⟨by kernel_rfl, fun W => by go_simp⟩) ?_
      refine wpAny_done (by kernel_rfl) ?_ _
      go_wp2
      go_ret
      exact ⟨_, rfl, by rw [HR.out]; exact HD.out, H.out⟩
end Go.Proofs.YtlchpdjpnabeiaaDoor
