import Derived.Test.YtlchpdjpnabeiaaGreatDoorTrExt
set_option linter.unusedVariables false
namespace Go.Proofs.YtlchpdjpnabeiaaGreatDoor
open Go Go.RowKit

theorem ext_val {old root : ByteArray} {n m : Nat} {p : List ByteArray} (h0 : 0 < m) (h1 : m ≤ n) (h2 : n ≤ 1000000) (hp : p.all isS = true) (hq : [old, root].all isS = true) :
    extT old m root n p = (decide ((bothT n m true old p).1 = old) && decide ((bothT n m true old p).2 = root) && decide (p.length = longT n m true)) := by
  simp only [List.all_cons, List.all_nil, Bool.and_true, Bool.and_eq_true] at hq
  unfold extT
  rw [hp, hq.1, hq.2, if_neg (by omega), decide_eq_true (by omega : (0 : Int) ≤ (m : Int)), decide_eq_true (by omega : (m : Int) ≤ (n : Int)), decide_eq_true (by omega : (n : Int) ≤ 1000000)]
  simp only [Bool.true_and, Int.toNat_natCast]
  rw [Bool.and_assoc, Bool.and_comm]
set_option maxRecDepth 100000 in
set_option maxHeartbeats 2000000 in
theorem ext_ok (old : ByteArray) (m : Nat) (root : ByteArray) (n : Nat) (v : Value) (p : List ByteArray) (w : World) (hv : IsStrC w v p) (hl : p.length ≤ 1099511627776) (hs : ∀ s ∈ p, s.size ≤ 1099511627776) (hos : old.size ≤ 1099511627776) (hrs : root.size ≤ 1099511627776) (h0 : 0 < m) (h2 : m ≤ n) (h3 : n ≤ 1000000) (hp : p.all isS = true) (hq : [old, root].all isS = true) (hT : Tabs w) :
    Calls Tryz.prog 15 #[.string old, .int .i64 (m : Int), .string root, .int .i64 (n : Int), v] w fun e w' => e = .returned (.bool (extT old m root n p)) ∧ Below w.heap.size w w' := by
  have HV := Lib.hid hv
  have HS := Lib.hid hs
  clear hv hs
  have HT := Lib.hid hT
  have HE := Lib.hid (ext_val h0 h2 h3 hp hq)
  have HP := Lib.hid hp
  have HQ := Lib.hid hq
  clear hp hq hT
  have hd4 : ((m : Int) == 0) = false := by rw [beq_eq_false_iff_ne]; omega
  have hd1 : decide ((m : Int) < 0) = false := decide_eq_false (by omega)
  have hd2 : decide ((n : Int) < (m : Int)) = false := decide_eq_false (by omega)
  have hd2' : decide (n < m) = false := decide_eq_false (by omega)
  have hd3 : decide ((1000000 : Int) < (n : Int)) = false := decide_eq_false (by omega)
  go_enter Tryz.func15, Tryz.ntmps15
  go_wp2_with fail
  have hb1 := (Below.refl w.heap.size w).alloc (Nat.le_refl _) (.cells #[.string old] 9)
  refine (clone_calls v p _ (HV.out.on hb1) hl).mono ?_
  rintro e w2 ⟨v', rfl, ho, h2⟩
  have H12 := Lib.hid h2
  have H2 := Lib.hid (hb1.trans (h2.mono hb1.size))
  have hsc := ho.strc
  obtain ⟨ao, cap, rfl, hlc, hcm, hcells⟩ := hsc
  have HO := Lib.hid ho
  clear ho h2 hcells hb1
  go_wp2_with fail
  have hb3 := H2.out.alloc H2.out.size (.cells #[.slice ao p.length cap] 41)
  have hv3 : IsStrC (w2.alloc (.cells #[.slice ao p.length cap] 41)) (.slice ao p.length cap) p := HO.out.strc.on ((Below.refl _ _).alloc (Nat.le_refl _) _)
  refine (proper_calls _ p _ hv3 HS.out).mono ?_
  rintro e w4 ⟨rfl, h4⟩
  rw [HP.out]
  have H43 := Lib.hid h4
  have H4 := Lib.hid (hb3.trans (h4.mono hb3.size))
  clear h4 hb3 hv3
  have hxl : (w.alloc (.cells #[.string old] 9)).heap.size = w.heap.size + 1 := World.size_alloc ..
  have hxc : w4.cell? ⟨w.heap.size, 0, none⟩ = some (.string old) := by
    have e2 := H12.out.size
    rw [hxl] at e2
    rw [World.cell?_of_block (H43.out.block w.heap.size (by rw [World.size_alloc]; omega)), World.cell?_of_block (heap_alloc_old w2 _ (show w.heap.size < w2.heap.size by omega)), World.cell?_of_block (H12.out.block w.heap.size (by rw [hxl]; omega)), World.cell?_alloc_new]
    rfl
  go_wp2_with fail
  have hb5 := H4.out.alloc H4.out.size (.cells #[.string old, .string root] 9)
  refine (proper_calls _ [old, root] _ (strc_lit w4 [old, root] (show 2 ≤ maxLen by decide)) (by simp; exact ⟨hos, hrs⟩)).mono ?_
  rintro e w5 ⟨rfl, h5⟩
  have H54 : Hid (Below w4.heap.size w4 w5) := Lib.hid (((Below.refl w4.heap.size w4).alloc (Nat.le_refl _) _).trans (h5.mono (by rw [World.size_alloc]; omega)))
  have H5 := Lib.hid (H4.out.trans (H54.out.mono H4.out.size))
  have hx5 : w5.cell? ⟨w.heap.size, 0, none⟩ = some (.string old) := (World.cell?_of_block (H54.out.block w.heap.size (World.block_lt_of_cell? w4 _ hxc))).trans hxc
  clear h5 hb5 hxc hxl
  rw [HQ.out]
  go_wp2_with fail
  obtain ⟨hU, hR⟩ := setup (.func (Fn.func 36) #[] #[.pointer (some ⟨w.heap.size, 0, none⟩), .pointer (some ⟨w5.heap.size + 1, 0, none⟩), .pointer (some ⟨w5.heap.size + 1 + 1, 0, none⟩)]) _ _ H12.out HO.out hlc hcm HP.out (H43.out.trans (H54.out.mono H43.out.size)) HT.out
  have HU := Lib.hid hU
  clear hU
  refine (both_calls hos HU.out n m p.length true false _ h0 h3 h2 (Nat.le_refl _) hR).mono ?_
  rintro e w6 ⟨rfl, h6⟩
  have H6 := Lib.hid h6
  clear h6 hR
  rw [List.take_length]
  have hvc := HU.out.vc H6.out
  have hxc := HU.out.xc H6.out
  have hB := Lib.hid (HU.out.below H6.out)
  generalize bothT n m true old p = u at *
  by_cases hq : u.1 = old
  · have hq2 : (u.1.toList == old.toList) = true := by rw [hq]; simp
    by_cases hr : u.2 = root
    · have hr2 : (u.2.toList == root.toList) = true := by rw [hr]; simp
      go_wp2_with fail
      refine (done_calls HU.out.rd H6.out).mono ?_
      rintro e w7 ⟨rfl, rfl⟩
      rw [done_val]
      go_wp2
      go_ret
      exact ⟨by rw [HE.out, decide_eq_true hq, decide_eq_true hr]; rfl, hB.out⟩
    · have hr2 : (u.2.toList == root.toList) = false := by rw [eqB]; exact decide_eq_false hr
      go_wp2
      go_ret
      exact ⟨by rw [HE.out, decide_eq_false hr, Bool.and_false]; rfl, hB.out⟩
  · have hq2 : (u.1.toList == old.toList) = false := by rw [eqB]; exact decide_eq_false hq
    go_wp2
    go_ret
    exact ⟨by rw [HE.out, decide_eq_false hq]; rfl, hB.out⟩
theorem ext_val0 {old root : ByteArray} {n : Nat} {p : List ByteArray} (h2 : n ≤ 1000000) (hp : p.all isS = true) (hq : [old, root].all isS = true) :
    extT old 0 root n p = (decide (p.length = 0) && decide (old = rootT []) && (decide (0 < n) || decide (root = old))) := by
  simp only [List.all_cons, List.all_nil, Bool.and_true, Bool.and_eq_true] at hq
  unfold extT
  rw [hp, hq.1, hq.2, if_pos rfl, decide_eq_true (by omega : (0 : Int) ≤ (n : Int)), decide_eq_true (by omega : (n : Int) ≤ 1000000)]
  simp
set_option maxRecDepth 100000 in
set_option maxHeartbeats 8000000 in
theorem ext_zero (old : ByteArray) (root : ByteArray) (n : Nat) (v : Value) (p : List ByteArray) (w : World) (hv : IsStrC w v p) (hl : p.length ≤ 1099511627776) (hs : ∀ s ∈ p, s.size ≤ 1099511627776) (hos : old.size ≤ 1099511627776) (hrs : root.size ≤ 1099511627776) (h3 : n ≤ 1000000) (hp : p.all isS = true) (hq : [old, root].all isS = true) (hT : Tabs w) :
    Calls Tryz.prog 15 #[.string old, .int .i64 0, .string root, .int .i64 (n : Int), v] w fun e w' => e = .returned (.bool (extT old 0 root n p)) ∧ Below w.heap.size w w' := by
  have HV := Lib.hid hv
  have HS := Lib.hid hs
  clear hv hs
  have HT := Lib.hid hT
  have HE := Lib.hid (ext_val0 (n := n) h3 hp hq)
  have HP := Lib.hid hp
  have HQ := Lib.hid hq
  clear hp hq hT
  have hvl : ∃ ao0 cap0, v = .slice ao0 p.length cap0 := by obtain ⟨ao0, cap0, rfl, _⟩ := HV.out; exact ⟨_, _, rfl⟩
  obtain ⟨ao0, cap0, rfl⟩ := hvl
  have hd2 : decide ((n : Int) < 0) = false := decide_eq_false (by omega)
  have hd3 : decide ((1000000 : Int) < (n : Int)) = false := decide_eq_false (by omega)
  go_enter Tryz.func15, Tryz.ntmps15
  go_wp2_with fail
  have hb1 := (Below.refl w.heap.size w).alloc (Nat.le_refl _) (.cells #[.string old] 9)
  refine (clone_calls _ p _ (HV.out.on hb1) hl).mono ?_
  rintro e w2 ⟨v', rfl, ho, h2⟩
  have H12 := Lib.hid h2
  have H2 := Lib.hid (hb1.trans (h2.mono hb1.size))
  have hsc := ho.strc
  obtain ⟨ao, cap, rfl, hlc, hcm, hcells⟩ := hsc
  have HO := Lib.hid ho
  clear ho h2 hcells hb1
  go_wp2_with fail
  have hb3 := H2.out.alloc H2.out.size (.cells #[.slice ao p.length cap] 41)
  have hv3 : IsStrC (w2.alloc (.cells #[.slice ao p.length cap] 41)) (.slice ao p.length cap) p := HO.out.strc.on ((Below.refl _ _).alloc (Nat.le_refl _) _)
  refine (proper_calls _ p _ hv3 HS.out).mono ?_
  rintro e w4 ⟨rfl, h4⟩
  rw [HP.out]
  have H43 := Lib.hid h4
  have H4 := Lib.hid (hb3.trans (h4.mono hb3.size))
  clear h4 hb3 hv3
  have hxl : (w.alloc (.cells #[.string old] 9)).heap.size = w.heap.size + 1 := World.size_alloc ..
  have hxc : w4.cell? ⟨w.heap.size, 0, none⟩ = some (.string old) := by
    have e2 := H12.out.size
    rw [hxl] at e2
    rw [World.cell?_of_block (H43.out.block w.heap.size (by rw [World.size_alloc]; omega)), World.cell?_of_block (heap_alloc_old w2 _ (show w.heap.size < w2.heap.size by omega)), World.cell?_of_block (H12.out.block w.heap.size (by rw [hxl]; omega)), World.cell?_alloc_new]
    rfl
  go_wp2_with fail
  have hb5 := H4.out.alloc H4.out.size (.cells #[.string old, .string root] 9)
  refine (proper_calls _ [old, root] _ (strc_lit w4 [old, root] (show 2 ≤ maxLen by decide)) (by simp; exact ⟨hos, hrs⟩)).mono ?_
  rintro e w5 ⟨rfl, h5⟩
  have H54 : Hid (Below w4.heap.size w4 w5) := Lib.hid (((Below.refl w4.heap.size w4).alloc (Nat.le_refl _) _).trans (h5.mono (by rw [World.size_alloc]; omega)))
  have H5 := Lib.hid (H4.out.trans (H54.out.mono H4.out.size))
  have hx5 : w5.cell? ⟨w.heap.size, 0, none⟩ = some (.string old) := (World.cell?_of_block (H54.out.block w.heap.size (World.block_lt_of_cell? w4 _ hxc))).trans hxc
  clear h5 hb5 hxc hxl
  rw [HQ.out]
  have HX5 := Lib.hid hx5
  by_cases hp0 : p.length = 0
  · have hp0' : ((p.length : Int) == 0) = true := by rw [hp0]; rfl
    by_cases hr : old = rootT []
    · have hr2 : (old.toList == (rootT []).toList) = true := by rw [hr]; simp
      by_cases hn0 : 0 < n
      · have HW : Hid (extT old 0 root n p = true) := by rw [HE.out, decide_eq_true hp0, decide_eq_true hr, decide_eq_true hn0]; exact Lib.hid rfl
        have hn0' : decide ((0 : Int) < (n : Int)) = true := decide_eq_true (by omega)
        go_wp2_with fail
        refine wp_region_any (by kernel_rfl) ?_
        change wpAny _ _ _ _ _ _ _ (World.drew _)
        refine wpAny_take (i := 0) (v := .slice ao0 p.length cap0) rfl (by kernel_rfl) (by kernel_rfl) (by kernel_rfl) (fun _ _ _ h => h) (Or.inl ⟨by kernel_rfl, fun W => by go_simp⟩) ?_
        refine wpAny_take (i := 1) (v := .int .i64 (p.length : Int)) rfl (by kernel_rfl) (by kernel_rfl) (by kernel_rfl) (fun _ _ _ h => h) (Or.inl ⟨by kernel_rfl, fun W => by go_simp⟩) ?_
        refine wpAny_take (i := 2) (v := .bool true) rfl (by kernel_rfl) (by kernel_rfl) (by kernel_rfl) (fun _ _ _ h => h) (Or.inl ⟨by kernel_rfl, fun W => by go_simp⟩) ?_
        refine wpAny_take (i := 3) (v := .bool true) rfl (by kernel_rfl) (by kernel_rfl) (by kernel_rfl) (fun _ _ _ h => h) (Or.inl ⟨by kernel_rfl, fun W => by go_simp⟩) ?_
        refine wpAny_ready (rs := [4, 5]) (by kernel_rfl) (by simp) ?_
        refine AllReady.cons rfl (fun K hK => ?_) (AllReady.cons rfl (fun K hK => ?_) AllReady.nil)
        · go_simp
          refine hK _ _ ?_
          clear hK K
          refine wpAny_ready (rs := [5]) (by kernel_rfl) (by simp) ?_
          refine AllReady.cons rfl (fun K hK => ?_) AllReady.nil
          go_simp
          refine (root_calls 0 [] _ _ rfl (strc_nil _) (by simp) (by simp) ?_).mono ?_
          · exact HT.out.on H5.out.drew
          rintro e w6 ⟨rfl, h6⟩
          have H6 := Lib.hid (H5.out.drew.trans (h6.mono H5.out.drew.size))
          have hx6 : w6.cell? ⟨w.heap.size, 0, none⟩ = some (.string old) := (World.cell?_of_block (h6.block w.heap.size (World.block_lt_of_cell? w5 _ HX5.out))).trans HX5.out
          clear h6
          refine hK _ _ ?_
          clear hK K
          refine wpAny_take (i := 6) (v := .bool true) rfl (by kernel_rfl) (by kernel_rfl) (by kernel_rfl) (fun _ _ _ h => h) (Or.inl ⟨by kernel_rfl, fun W => by go_simp⟩) ?_
          refine wpAny_take (i := 7) (v := .bool true) rfl (by kernel_rfl) (by kernel_rfl) (by kernel_rfl) (fun _ _ _ h => h) (Or.inl ⟨by kernel_rfl, fun W => by go_simp⟩) ?_
          refine wpAny_take (i := 8) (v := .bool true) rfl (by kernel_rfl) (by kernel_rfl) (by kernel_rfl) (fun _ _ _ h => h) (Or.inl ⟨by kernel_rfl, fun W => by go_simp⟩) ?_
          refine wpAny_take (i := 9) (v := .int .i64 (n : Int)) rfl (by kernel_rfl) (by kernel_rfl) (by kernel_rfl) (fun _ _ _ h => h) (Or.inl ⟨by kernel_rfl, fun W => by go_simp⟩) ?_
          refine wpAny_take (i := 10) (v := .bool true) rfl (by kernel_rfl) (by kernel_rfl) (by kernel_rfl) (fun _ _ _ h => h) (Or.inl ⟨by kernel_rfl, fun W => by go_simp⟩) ?_
          refine wpAny_take (i := 11) (v := .bool true) rfl (by kernel_rfl) (by kernel_rfl) (by kernel_rfl) (fun _ _ _ h => h) (Or.inl ⟨by kernel_rfl, fun W => by go_simp⟩) ?_
          refine wpAny_take (i := 12) (v := undef) rfl (by kernel_rfl) (by kernel_rfl) (by kernel_rfl) (fun _ _ _ h => h) (Or.inr ⟨by kernel_rfl, rfl⟩) ?_
          refine wpAny_take (i := 13) (v := undef) rfl (by kernel_rfl) (by kernel_rfl) (by kernel_rfl) (fun _ _ _ h => h) (Or.inr ⟨by kernel_rfl, rfl⟩) ?_
          refine wpAny_take (i := 14) (v := undef) rfl (by kernel_rfl) (by kernel_rfl) (by kernel_rfl) (fun _ _ _ h => h) (Or.inr ⟨by kernel_rfl, rfl⟩) ?_
          refine wpAny_take (i := 15) (v := .bool true) rfl (by kernel_rfl) (by kernel_rfl) (by kernel_rfl) (fun _ _ _ h => h) (Or.inl ⟨by kernel_rfl, fun W => by go_simp⟩) ?_
          refine wpAny_take (i := 16) (v := .bool true) rfl (by kernel_rfl) (by kernel_rfl) (by kernel_rfl) (fun _ _ _ h => h) (Or.inl ⟨by kernel_rfl, fun W => by go_simp⟩) ?_
          refine wpAny_take (i := 17) (v := .bool true) rfl (by kernel_rfl) (by kernel_rfl) (by kernel_rfl) (fun _ _ _ h => h) (Or.inl ⟨by kernel_rfl, fun W => by go_simp⟩) ?_
          refine wpAny_done (by kernel_rfl) ?_ _
          go_wp2
          go_ret
          exact ⟨by rw [HW.out]; kernel_rfl, H6.out⟩
        · go_simp
          refine (root_calls 0 [] _ _ rfl (strc_nil _) (by simp) (by simp) ?_).mono ?_
          · exact HT.out.on H5.out.drew
          rintro e w6 ⟨rfl, h6⟩
          have H6 := Lib.hid (H5.out.drew.trans (h6.mono H5.out.drew.size))
          have hx6 : w6.cell? ⟨w.heap.size, 0, none⟩ = some (.string old) := (World.cell?_of_block (h6.block w.heap.size (World.block_lt_of_cell? w5 _ HX5.out))).trans HX5.out
          clear h6
          refine hK _ _ ?_
          clear hK K
          refine wpAny_ready (rs := [4]) (by kernel_rfl) (by simp) ?_
          refine AllReady.cons rfl (fun K hK => ?_) AllReady.nil
          go_simp
          refine hK _ _ ?_
          clear hK K
          refine wpAny_take (i := 6) (v := .bool true) rfl (by kernel_rfl) (by kernel_rfl) (by kernel_rfl) (fun _ _ _ h => h) (Or.inl ⟨by kernel_rfl, fun W => by go_simp⟩) ?_
          refine wpAny_take (i := 7) (v := .bool true) rfl (by kernel_rfl) (by kernel_rfl) (by kernel_rfl) (fun _ _ _ h => h) (Or.inl ⟨by kernel_rfl, fun W => by go_simp⟩) ?_
          refine wpAny_take (i := 8) (v := .bool true) rfl (by kernel_rfl) (by kernel_rfl) (by kernel_rfl) (fun _ _ _ h => h) (Or.inl ⟨by kernel_rfl, fun W => by go_simp⟩) ?_
          refine wpAny_take (i := 9) (v := .int .i64 (n : Int)) rfl (by kernel_rfl) (by kernel_rfl) (by kernel_rfl) (fun _ _ _ h => h) (Or.inl ⟨by kernel_rfl, fun W => by go_simp⟩) ?_
          refine wpAny_take (i := 10) (v := .bool true) rfl (by kernel_rfl) (by kernel_rfl) (by kernel_rfl) (fun _ _ _ h => h) (Or.inl ⟨by kernel_rfl, fun W => by go_simp⟩) ?_
          refine wpAny_take (i := 11) (v := .bool true) rfl (by kernel_rfl) (by kernel_rfl) (by kernel_rfl) (fun _ _ _ h => h) (Or.inl ⟨by kernel_rfl, fun W => by go_simp⟩) ?_
          refine wpAny_take (i := 12) (v := undef) rfl (by kernel_rfl) (by kernel_rfl) (by kernel_rfl) (fun _ _ _ h => h) (Or.inr ⟨by kernel_rfl, rfl⟩) ?_
          refine wpAny_take (i := 13) (v := undef) rfl (by kernel_rfl) (by kernel_rfl) (by kernel_rfl) (fun _ _ _ h => h) (Or.inr ⟨by kernel_rfl, rfl⟩) ?_
          refine wpAny_take (i := 14) (v := undef) rfl (by kernel_rfl) (by kernel_rfl) (by kernel_rfl) (fun _ _ _ h => h) (Or.inr ⟨by kernel_rfl, rfl⟩) ?_
          refine wpAny_take (i := 15) (v := .bool true) rfl (by kernel_rfl) (by kernel_rfl) (by kernel_rfl) (fun _ _ _ h => h) (Or.inl ⟨by kernel_rfl, fun W => by go_simp⟩) ?_
          refine wpAny_take (i := 16) (v := .bool true) rfl (by kernel_rfl) (by kernel_rfl) (by kernel_rfl) (fun _ _ _ h => h) (Or.inl ⟨by kernel_rfl, fun W => by go_simp⟩) ?_
          refine wpAny_take (i := 17) (v := .bool true) rfl (by kernel_rfl) (by kernel_rfl) (by kernel_rfl) (fun _ _ _ h => h) (Or.inl ⟨by kernel_rfl, fun W => by go_simp⟩) ?_
          refine wpAny_done (by kernel_rfl) ?_ _
          go_wp2
          go_ret
          exact ⟨by rw [HW.out]; kernel_rfl, H6.out⟩
      · have hn0' : decide ((0 : Int) < (n : Int)) = false := decide_eq_false (by omega)
        have hn1' : decide (0 < n) = false := decide_eq_false hn0
        cases hq3 : (root.toList == old.toList) with
        | true =>
          have HW : Hid (extT old 0 root n p = true) := by rw [HE.out, decide_eq_true hp0, decide_eq_true hr, hn1', ← eqB, hq3]; exact Lib.hid rfl
          have hq4 : (root.toList == (rootT []).toList) = true := by rw [← hr]; exact hq3
          go_wp2_with fail
          refine wp_region_any (by kernel_rfl) ?_
          change wpAny _ _ _ _ _ _ _ (World.drew _)
          refine wpAny_take (i := 0) (v := .slice ao0 p.length cap0) rfl (by kernel_rfl) (by kernel_rfl) (by kernel_rfl) (fun _ _ _ h => h) (Or.inl ⟨by kernel_rfl, fun W => by go_simp⟩) ?_
          refine wpAny_take (i := 1) (v := .int .i64 (p.length : Int)) rfl (by kernel_rfl) (by kernel_rfl) (by kernel_rfl) (fun _ _ _ h => h) (Or.inl ⟨by kernel_rfl, fun W => by go_simp⟩) ?_
          refine wpAny_take (i := 2) (v := .bool true) rfl (by kernel_rfl) (by kernel_rfl) (by kernel_rfl) (fun _ _ _ h => h) (Or.inl ⟨by kernel_rfl, fun W => by go_simp⟩) ?_
          refine wpAny_take (i := 3) (v := .bool true) rfl (by kernel_rfl) (by kernel_rfl) (by kernel_rfl) (fun _ _ _ h => h) (Or.inl ⟨by kernel_rfl, fun W => by go_simp⟩) ?_
          refine wpAny_ready (rs := [4, 5]) (by kernel_rfl) (by simp) ?_
          refine AllReady.cons rfl (fun K hK => ?_) (AllReady.cons rfl (fun K hK => ?_) AllReady.nil)
          · go_simp
            refine hK _ _ ?_
            clear hK K
            refine wpAny_ready (rs := [5]) (by kernel_rfl) (by simp) ?_
            refine AllReady.cons rfl (fun K hK => ?_) AllReady.nil
            go_simp
            refine (root_calls 0 [] _ _ rfl (strc_nil _) (by simp) (by simp) ?_).mono ?_
            · exact HT.out.on H5.out.drew
            rintro e w6 ⟨rfl, h6⟩
            have H6 := Lib.hid (H5.out.drew.trans (h6.mono H5.out.drew.size))
            have hx6 : w6.cell? ⟨w.heap.size, 0, none⟩ = some (.string old) := (World.cell?_of_block (h6.block w.heap.size (World.block_lt_of_cell? w5 _ HX5.out))).trans HX5.out
            clear h6
            refine hK _ _ ?_
            clear hK K
            refine wpAny_take (i := 6) (v := .bool true) rfl (by kernel_rfl) (by kernel_rfl) (by kernel_rfl) (fun _ _ _ h => h) (Or.inl ⟨by kernel_rfl, fun W => by go_simp⟩) ?_
            refine wpAny_take (i := 7) (v := .bool true) rfl (by kernel_rfl) (by kernel_rfl) (by kernel_rfl) (fun _ _ _ h => h) (Or.inl ⟨by kernel_rfl, fun W => by go_simp⟩) ?_
            refine wpAny_take (i := 8) (v := .bool true) rfl (by kernel_rfl) (by kernel_rfl) (by kernel_rfl) (fun _ _ _ h => h) (Or.inl ⟨by kernel_rfl, fun W => by go_simp⟩) ?_
            refine wpAny_take (i := 9) (v := .int .i64 (n : Int)) rfl (by kernel_rfl) (by kernel_rfl) (by kernel_rfl) (fun _ _ _ h => h) (Or.inl ⟨by kernel_rfl, fun W => by go_simp⟩) ?_
            refine wpAny_take (i := 10) (v := .bool false) rfl (by kernel_rfl) (by kernel_rfl) (by kernel_rfl) (fun _ _ _ h => h) (Or.inl ⟨by kernel_rfl, fun W => by go_simp⟩) ?_
            refine wpAny_take (i := 11) (v := .bool false) rfl (by kernel_rfl) (by kernel_rfl) (by kernel_rfl) (fun _ _ _ h => h) (Or.inl ⟨by kernel_rfl, fun W => by go_simp⟩) ?_
            refine wpAny_take (i := 12) (v := .string root) rfl (by kernel_rfl) (by kernel_rfl) (by kernel_rfl) (fun _ _ _ h => h) (Or.inl ⟨by kernel_rfl, fun W => by go_simp⟩) ?_
            refine wpAny_ready (rs := [13]) (by kernel_rfl) (by simp) ?_
            refine AllReady.cons rfl (fun K hK => ?_) AllReady.nil
            go_simp
            refine hK _ _ ?_
            clear hK K
            refine wpAny_take (i := 14) (v := .bool true) rfl (by kernel_rfl) (by kernel_rfl) (by kernel_rfl) (fun _ _ _ h => h) (Or.inl ⟨by kernel_rfl, fun W => by go_simp⟩) ?_
            refine wpAny_take (i := 15) (v := .bool true) rfl (by kernel_rfl) (by kernel_rfl) (by kernel_rfl) (fun _ _ _ h => h) (Or.inl ⟨by kernel_rfl, fun W => by go_simp⟩) ?_
            refine wpAny_take (i := 16) (v := .bool true) rfl (by kernel_rfl) (by kernel_rfl) (by kernel_rfl) (fun _ _ _ h => h) (Or.inl ⟨by kernel_rfl, fun W => by go_simp⟩) ?_
            refine wpAny_take (i := 17) (v := .bool true) rfl (by kernel_rfl) (by kernel_rfl) (by kernel_rfl) (fun _ _ _ h => h) (Or.inl ⟨by kernel_rfl, fun W => by go_simp⟩) ?_
            refine wpAny_done (by kernel_rfl) ?_ _
            go_wp2
            go_ret
            exact ⟨by rw [HW.out]; kernel_rfl, H6.out⟩
          · go_simp
            refine (root_calls 0 [] _ _ rfl (strc_nil _) (by simp) (by simp) ?_).mono ?_
            · exact HT.out.on H5.out.drew
            rintro e w6 ⟨rfl, h6⟩
            have H6 := Lib.hid (H5.out.drew.trans (h6.mono H5.out.drew.size))
            have hx6 : w6.cell? ⟨w.heap.size, 0, none⟩ = some (.string old) := (World.cell?_of_block (h6.block w.heap.size (World.block_lt_of_cell? w5 _ HX5.out))).trans HX5.out
            clear h6
            refine hK _ _ ?_
            clear hK K
            refine wpAny_ready (rs := [4]) (by kernel_rfl) (by simp) ?_
            refine AllReady.cons rfl (fun K hK => ?_) AllReady.nil
            go_simp
            refine hK _ _ ?_
            clear hK K
            refine wpAny_take (i := 6) (v := .bool true) rfl (by kernel_rfl) (by kernel_rfl) (by kernel_rfl) (fun _ _ _ h => h) (Or.inl ⟨by kernel_rfl, fun W => by go_simp⟩) ?_
            refine wpAny_take (i := 7) (v := .bool true) rfl (by kernel_rfl) (by kernel_rfl) (by kernel_rfl) (fun _ _ _ h => h) (Or.inl ⟨by kernel_rfl, fun W => by go_simp⟩) ?_
            refine wpAny_take (i := 8) (v := .bool true) rfl (by kernel_rfl) (by kernel_rfl) (by kernel_rfl) (fun _ _ _ h => h) (Or.inl ⟨by kernel_rfl, fun W => by go_simp⟩) ?_
            refine wpAny_take (i := 9) (v := .int .i64 (n : Int)) rfl (by kernel_rfl) (by kernel_rfl) (by kernel_rfl) (fun _ _ _ h => h) (Or.inl ⟨by kernel_rfl, fun W => by go_simp⟩) ?_
            refine wpAny_take (i := 10) (v := .bool false) rfl (by kernel_rfl) (by kernel_rfl) (by kernel_rfl) (fun _ _ _ h => h) (Or.inl ⟨by kernel_rfl, fun W => by go_simp⟩) ?_
            refine wpAny_take (i := 11) (v := .bool false) rfl (by kernel_rfl) (by kernel_rfl) (by kernel_rfl) (fun _ _ _ h => h) (Or.inl ⟨by kernel_rfl, fun W => by go_simp⟩) ?_
            refine wpAny_take (i := 12) (v := .string root) rfl (by kernel_rfl) (by kernel_rfl) (by kernel_rfl) (fun _ _ _ h => h) (Or.inl ⟨by kernel_rfl, fun W => by go_simp⟩) ?_
            refine wpAny_ready (rs := [13]) (by kernel_rfl) (by simp) ?_
            refine AllReady.cons rfl (fun K hK => ?_) AllReady.nil
            go_simp
            refine hK _ _ ?_
            clear hK K
            refine wpAny_take (i := 14) (v := .bool true) rfl (by kernel_rfl) (by kernel_rfl) (by kernel_rfl) (fun _ _ _ h => h) (Or.inl ⟨by kernel_rfl, fun W => by go_simp⟩) ?_
            refine wpAny_take (i := 15) (v := .bool true) rfl (by kernel_rfl) (by kernel_rfl) (by kernel_rfl) (fun _ _ _ h => h) (Or.inl ⟨by kernel_rfl, fun W => by go_simp⟩) ?_
            refine wpAny_take (i := 16) (v := .bool true) rfl (by kernel_rfl) (by kernel_rfl) (by kernel_rfl) (fun _ _ _ h => h) (Or.inl ⟨by kernel_rfl, fun W => by go_simp⟩) ?_
            refine wpAny_take (i := 17) (v := .bool true) rfl (by kernel_rfl) (by kernel_rfl) (by kernel_rfl) (fun _ _ _ h => h) (Or.inl ⟨by kernel_rfl, fun W => by go_simp⟩) ?_
            refine wpAny_done (by kernel_rfl) ?_ _
            go_wp2
            go_ret
            exact ⟨by rw [HW.out]; kernel_rfl, H6.out⟩
        | false =>
          have HW : Hid (extT old 0 root n p = false) := by rw [HE.out, decide_eq_true hp0, decide_eq_true hr, hn1', ← eqB, hq3]; exact Lib.hid rfl
          have hq4 : (root.toList == (rootT []).toList) = false := by rw [← hr]; exact hq3
          go_wp2_with fail
          refine wp_region_any (by kernel_rfl) ?_
          change wpAny _ _ _ _ _ _ _ (World.drew _)
          refine wpAny_take (i := 0) (v := .slice ao0 p.length cap0) rfl (by kernel_rfl) (by kernel_rfl) (by kernel_rfl) (fun _ _ _ h => h) (Or.inl ⟨by kernel_rfl, fun W => by go_simp⟩) ?_
          refine wpAny_take (i := 1) (v := .int .i64 (p.length : Int)) rfl (by kernel_rfl) (by kernel_rfl) (by kernel_rfl) (fun _ _ _ h => h) (Or.inl ⟨by kernel_rfl, fun W => by go_simp⟩) ?_
          refine wpAny_take (i := 2) (v := .bool true) rfl (by kernel_rfl) (by kernel_rfl) (by kernel_rfl) (fun _ _ _ h => h) (Or.inl ⟨by kernel_rfl, fun W => by go_simp⟩) ?_
          refine wpAny_take (i := 3) (v := .bool true) rfl (by kernel_rfl) (by kernel_rfl) (by kernel_rfl) (fun _ _ _ h => h) (Or.inl ⟨by kernel_rfl, fun W => by go_simp⟩) ?_
          refine wpAny_ready (rs := [4, 5]) (by kernel_rfl) (by simp) ?_
          refine AllReady.cons rfl (fun K hK => ?_) (AllReady.cons rfl (fun K hK => ?_) AllReady.nil)
          · go_simp
            refine hK _ _ ?_
            clear hK K
            refine wpAny_ready (rs := [5]) (by kernel_rfl) (by simp) ?_
            refine AllReady.cons rfl (fun K hK => ?_) AllReady.nil
            go_simp
            refine (root_calls 0 [] _ _ rfl (strc_nil _) (by simp) (by simp) ?_).mono ?_
            · exact HT.out.on H5.out.drew
            rintro e w6 ⟨rfl, h6⟩
            have H6 := Lib.hid (H5.out.drew.trans (h6.mono H5.out.drew.size))
            have hx6 : w6.cell? ⟨w.heap.size, 0, none⟩ = some (.string old) := (World.cell?_of_block (h6.block w.heap.size (World.block_lt_of_cell? w5 _ HX5.out))).trans HX5.out
            clear h6
            refine hK _ _ ?_
            clear hK K
            refine wpAny_take (i := 6) (v := .bool true) rfl (by kernel_rfl) (by kernel_rfl) (by kernel_rfl) (fun _ _ _ h => h) (Or.inl ⟨by kernel_rfl, fun W => by go_simp⟩) ?_
            refine wpAny_take (i := 7) (v := .bool true) rfl (by kernel_rfl) (by kernel_rfl) (by kernel_rfl) (fun _ _ _ h => h) (Or.inl ⟨by kernel_rfl, fun W => by go_simp⟩) ?_
            refine wpAny_take (i := 8) (v := .bool true) rfl (by kernel_rfl) (by kernel_rfl) (by kernel_rfl) (fun _ _ _ h => h) (Or.inl ⟨by kernel_rfl, fun W => by go_simp⟩) ?_
            refine wpAny_take (i := 9) (v := .int .i64 (n : Int)) rfl (by kernel_rfl) (by kernel_rfl) (by kernel_rfl) (fun _ _ _ h => h) (Or.inl ⟨by kernel_rfl, fun W => by go_simp⟩) ?_
            refine wpAny_take (i := 10) (v := .bool false) rfl (by kernel_rfl) (by kernel_rfl) (by kernel_rfl) (fun _ _ _ h => h) (Or.inl ⟨by kernel_rfl, fun W => by go_simp⟩) ?_
            refine wpAny_take (i := 11) (v := .bool false) rfl (by kernel_rfl) (by kernel_rfl) (by kernel_rfl) (fun _ _ _ h => h) (Or.inl ⟨by kernel_rfl, fun W => by go_simp⟩) ?_
            refine wpAny_take (i := 12) (v := .string root) rfl (by kernel_rfl) (by kernel_rfl) (by kernel_rfl) (fun _ _ _ h => h) (Or.inl ⟨by kernel_rfl, fun W => by go_simp⟩) ?_
            refine wpAny_ready (rs := [13]) (by kernel_rfl) (by simp) ?_
            refine AllReady.cons rfl (fun K hK => ?_) AllReady.nil
            go_simp
            refine hK _ _ ?_
            clear hK K
            refine wpAny_take (i := 14) (v := .bool false) rfl (by kernel_rfl) (by kernel_rfl) (by kernel_rfl) (fun _ _ _ h => h) (Or.inl ⟨by kernel_rfl, fun W => by go_simp⟩) ?_
            refine wpAny_take (i := 15) (v := .bool false) rfl (by kernel_rfl) (by kernel_rfl) (by kernel_rfl) (fun _ _ _ h => h) (Or.inl ⟨by kernel_rfl, fun W => by go_simp⟩) ?_
            refine wpAny_take (i := 16) (v := .bool false) rfl (by kernel_rfl) (by kernel_rfl) (by kernel_rfl) (fun _ _ _ h => h) (Or.inl ⟨by kernel_rfl, fun W => by go_simp⟩) ?_
            refine wpAny_take (i := 17) (v := .bool false) rfl (by kernel_rfl) (by kernel_rfl) (by kernel_rfl) (fun _ _ _ h => h) (Or.inl ⟨by kernel_rfl, fun W => by go_simp⟩) ?_
            refine wpAny_done (by kernel_rfl) ?_ _
            go_wp2
            go_ret
            exact ⟨by rw [HW.out]; kernel_rfl, H6.out⟩
          · go_simp
            refine (root_calls 0 [] _ _ rfl (strc_nil _) (by simp) (by simp) ?_).mono ?_
            · exact HT.out.on H5.out.drew
            rintro e w6 ⟨rfl, h6⟩
            have H6 := Lib.hid (H5.out.drew.trans (h6.mono H5.out.drew.size))
            have hx6 : w6.cell? ⟨w.heap.size, 0, none⟩ = some (.string old) := (World.cell?_of_block (h6.block w.heap.size (World.block_lt_of_cell? w5 _ HX5.out))).trans HX5.out
            clear h6
            refine hK _ _ ?_
            clear hK K
            refine wpAny_ready (rs := [4]) (by kernel_rfl) (by simp) ?_
            refine AllReady.cons rfl (fun K hK => ?_) AllReady.nil
            go_simp
            refine hK _ _ ?_
            clear hK K
            refine wpAny_take (i := 6) (v := .bool true) rfl (by kernel_rfl) (by kernel_rfl) (by kernel_rfl) (fun _ _ _ h => h) (Or.inl ⟨by kernel_rfl, fun W => by go_simp⟩) ?_
            refine wpAny_take (i := 7) (v := .bool true) rfl (by kernel_rfl) (by kernel_rfl) (by kernel_rfl) (fun _ _ _ h => h) (Or.inl ⟨by kernel_rfl, fun W => by go_simp⟩) ?_
            refine wpAny_take (i := 8) (v := .bool true) rfl (by kernel_rfl) (by kernel_rfl) (by kernel_rfl) (fun _ _ _ h => h) (Or.inl ⟨by kernel_rfl, fun W => by go_simp⟩) ?_
            refine wpAny_take (i := 9) (v := .int .i64 (n : Int)) rfl (by kernel_rfl) (by kernel_rfl) (by kernel_rfl) (fun _ _ _ h => h) (Or.inl ⟨by kernel_rfl, fun W => by go_simp⟩) ?_
            refine wpAny_take (i := 10) (v := .bool false) rfl (by kernel_rfl) (by kernel_rfl) (by kernel_rfl) (fun _ _ _ h => h) (Or.inl ⟨by kernel_rfl, fun W => by go_simp⟩) ?_
            refine wpAny_take (i := 11) (v := .bool false) rfl (by kernel_rfl) (by kernel_rfl) (by kernel_rfl) (fun _ _ _ h => h) (Or.inl ⟨by kernel_rfl, fun W => by go_simp⟩) ?_
            refine wpAny_take (i := 12) (v := .string root) rfl (by kernel_rfl) (by kernel_rfl) (by kernel_rfl) (fun _ _ _ h => h) (Or.inl ⟨by kernel_rfl, fun W => by go_simp⟩) ?_
            refine wpAny_ready (rs := [13]) (by kernel_rfl) (by simp) ?_
            refine AllReady.cons rfl (fun K hK => ?_) AllReady.nil
            go_simp
            refine hK _ _ ?_
            clear hK K
            refine wpAny_take (i := 14) (v := .bool false) rfl (by kernel_rfl) (by kernel_rfl) (by kernel_rfl) (fun _ _ _ h => h) (Or.inl ⟨by kernel_rfl, fun W => by go_simp⟩) ?_
            refine wpAny_take (i := 15) (v := .bool false) rfl (by kernel_rfl) (by kernel_rfl) (by kernel_rfl) (fun _ _ _ h => h) (Or.inl ⟨by kernel_rfl, fun W => by go_simp⟩) ?_
            refine wpAny_take (i := 16) (v := .bool false) rfl (by kernel_rfl) (by kernel_rfl) (by kernel_rfl) (fun _ _ _ h => h) (Or.inl ⟨by kernel_rfl, fun W => by go_simp⟩) ?_
            refine wpAny_take (i := 17) (v := .bool false) rfl (by kernel_rfl) (by kernel_rfl) (by kernel_rfl) (fun _ _ _ h => h) (Or.inl ⟨by kernel_rfl, fun W => by go_simp⟩) ?_
            refine wpAny_done (by kernel_rfl) ?_ _
            go_wp2
            go_ret
            exact ⟨by rw [HW.out]; kernel_rfl, H6.out⟩
    · have hr2 : (old.toList == (rootT []).toList) = false := by rw [eqB]; exact decide_eq_false hr
      have HW : Hid (extT old 0 root n p = false) := by rw [HE.out, decide_eq_false hr, Bool.and_false]; exact Lib.hid rfl
      go_wp2_with fail
      refine wp_region_any (by kernel_rfl) ?_
      change wpAny _ _ _ _ _ _ _ (World.drew _)
      refine wpAny_take (i := 0) (v := .slice ao0 p.length cap0) rfl (by kernel_rfl) (by kernel_rfl) (by kernel_rfl) (fun _ _ _ h => h) (Or.inl ⟨by kernel_rfl, fun W => by go_simp⟩) ?_
      refine wpAny_take (i := 1) (v := .int .i64 (p.length : Int)) rfl (by kernel_rfl) (by kernel_rfl) (by kernel_rfl) (fun _ _ _ h => h) (Or.inl ⟨by kernel_rfl, fun W => by go_simp⟩) ?_
      refine wpAny_take (i := 2) (v := .bool true) rfl (by kernel_rfl) (by kernel_rfl) (by kernel_rfl) (fun _ _ _ h => h) (Or.inl ⟨by kernel_rfl, fun W => by go_simp⟩) ?_
      refine wpAny_take (i := 3) (v := .bool true) rfl (by kernel_rfl) (by kernel_rfl) (by kernel_rfl) (fun _ _ _ h => h) (Or.inl ⟨by kernel_rfl, fun W => by go_simp⟩) ?_
      refine wpAny_ready (rs := [4, 5]) (by kernel_rfl) (by simp) ?_
      refine AllReady.cons rfl (fun K hK => ?_) (AllReady.cons rfl (fun K hK => ?_) AllReady.nil)
      · go_simp
        refine hK _ _ ?_
        clear hK K
        refine wpAny_ready (rs := [5]) (by kernel_rfl) (by simp) ?_
        refine AllReady.cons rfl (fun K hK => ?_) AllReady.nil
        go_simp
        refine (root_calls 0 [] _ _ rfl (strc_nil _) (by simp) (by simp) ?_).mono ?_
        · exact HT.out.on H5.out.drew
        rintro e w6 ⟨rfl, h6⟩
        have H6 := Lib.hid (H5.out.drew.trans (h6.mono H5.out.drew.size))
        have hx6 : w6.cell? ⟨w.heap.size, 0, none⟩ = some (.string old) := (World.cell?_of_block (h6.block w.heap.size (World.block_lt_of_cell? w5 _ HX5.out))).trans HX5.out
        clear h6
        refine hK _ _ ?_
        clear hK K
        refine wpAny_take (i := 6) (v := .bool false) rfl (by kernel_rfl) (by kernel_rfl) (by kernel_rfl) (fun _ _ _ h => h) (Or.inl ⟨by kernel_rfl, fun W => by go_simp⟩) ?_
        refine wpAny_take (i := 7) (v := .bool false) rfl (by kernel_rfl) (by kernel_rfl) (by kernel_rfl) (fun _ _ _ h => h) (Or.inl ⟨by kernel_rfl, fun W => by go_simp⟩) ?_
        refine wpAny_take (i := 8) (v := .bool false) rfl (by kernel_rfl) (by kernel_rfl) (by kernel_rfl) (fun _ _ _ h => h) (Or.inl ⟨by kernel_rfl, fun W => by go_simp⟩) ?_
        refine wpAny_take (i := 9) (v := undef) rfl (by kernel_rfl) (by kernel_rfl) (by kernel_rfl) (fun _ _ _ h => h) (Or.inr ⟨by kernel_rfl, rfl⟩) ?_
        refine wpAny_take (i := 10) (v := undef) rfl (by kernel_rfl) (by kernel_rfl) (by kernel_rfl) (fun _ _ _ h => h) (Or.inr ⟨by kernel_rfl, rfl⟩) ?_
        refine wpAny_take (i := 11) (v := undef) rfl (by kernel_rfl) (by kernel_rfl) (by kernel_rfl) (fun _ _ _ h => h) (Or.inr ⟨by kernel_rfl, rfl⟩) ?_
        refine wpAny_take (i := 12) (v := undef) rfl (by kernel_rfl) (by kernel_rfl) (by kernel_rfl) (fun _ _ _ h => h) (Or.inr ⟨by kernel_rfl, rfl⟩) ?_
        refine wpAny_take (i := 13) (v := undef) rfl (by kernel_rfl) (by kernel_rfl) (by kernel_rfl) (fun _ _ _ h => h) (Or.inr ⟨by kernel_rfl, rfl⟩) ?_
        refine wpAny_take (i := 14) (v := undef) rfl (by kernel_rfl) (by kernel_rfl) (by kernel_rfl) (fun _ _ _ h => h) (Or.inr ⟨by kernel_rfl, rfl⟩) ?_
        refine wpAny_take (i := 15) (v := undef) rfl (by kernel_rfl) (by kernel_rfl) (by kernel_rfl) (fun _ _ _ h => h) (Or.inr ⟨by kernel_rfl, rfl⟩) ?_
        refine wpAny_take (i := 16) (v := .bool false) rfl (by kernel_rfl) (by kernel_rfl) (by kernel_rfl) (fun _ _ _ h => h) (Or.inl ⟨by kernel_rfl, fun W => by go_simp⟩) ?_
        refine wpAny_take (i := 17) (v := .bool false) rfl (by kernel_rfl) (by kernel_rfl) (by kernel_rfl) (fun _ _ _ h => h) (Or.inl ⟨by kernel_rfl, fun W => by go_simp⟩) ?_
        refine wpAny_done (by kernel_rfl) ?_ _
        go_wp2
        go_ret
        exact ⟨by rw [HW.out]; kernel_rfl, H6.out⟩
      · go_simp
        refine (root_calls 0 [] _ _ rfl (strc_nil _) (by simp) (by simp) ?_).mono ?_
        · exact HT.out.on H5.out.drew
        rintro e w6 ⟨rfl, h6⟩
        have H6 := Lib.hid (H5.out.drew.trans (h6.mono H5.out.drew.size))
        have hx6 : w6.cell? ⟨w.heap.size, 0, none⟩ = some (.string old) := (World.cell?_of_block (h6.block w.heap.size (World.block_lt_of_cell? w5 _ HX5.out))).trans HX5.out
        clear h6
        refine hK _ _ ?_
        clear hK K
        refine wpAny_ready (rs := [4]) (by kernel_rfl) (by simp) ?_
        refine AllReady.cons rfl (fun K hK => ?_) AllReady.nil
        go_simp
        refine hK _ _ ?_
        clear hK K
        refine wpAny_take (i := 6) (v := .bool false) rfl (by kernel_rfl) (by kernel_rfl) (by kernel_rfl) (fun _ _ _ h => h) (Or.inl ⟨by kernel_rfl, fun W => by go_simp⟩) ?_
        refine wpAny_take (i := 7) (v := .bool false) rfl (by kernel_rfl) (by kernel_rfl) (by kernel_rfl) (fun _ _ _ h => h) (Or.inl ⟨by kernel_rfl, fun W => by go_simp⟩) ?_
        refine wpAny_take (i := 8) (v := .bool false) rfl (by kernel_rfl) (by kernel_rfl) (by kernel_rfl) (fun _ _ _ h => h) (Or.inl ⟨by kernel_rfl, fun W => by go_simp⟩) ?_
        refine wpAny_take (i := 9) (v := undef) rfl (by kernel_rfl) (by kernel_rfl) (by kernel_rfl) (fun _ _ _ h => h) (Or.inr ⟨by kernel_rfl, rfl⟩) ?_
        refine wpAny_take (i := 10) (v := undef) rfl (by kernel_rfl) (by kernel_rfl) (by kernel_rfl) (fun _ _ _ h => h) (Or.inr ⟨by kernel_rfl, rfl⟩) ?_
        refine wpAny_take (i := 11) (v := undef) rfl (by kernel_rfl) (by kernel_rfl) (by kernel_rfl) (fun _ _ _ h => h) (Or.inr ⟨by kernel_rfl, rfl⟩) ?_
        refine wpAny_take (i := 12) (v := undef) rfl (by kernel_rfl) (by kernel_rfl) (by kernel_rfl) (fun _ _ _ h => h) (Or.inr ⟨by kernel_rfl, rfl⟩) ?_
        refine wpAny_take (i := 13) (v := undef) rfl (by kernel_rfl) (by kernel_rfl) (by kernel_rfl) (fun _ _ _ h => h) (Or.inr ⟨by kernel_rfl, rfl⟩) ?_
        refine wpAny_take (i := 14) (v := undef) rfl (by kernel_rfl) (by kernel_rfl) (by kernel_rfl) (fun _ _ _ h => h) (Or.inr ⟨by kernel_rfl, rfl⟩) ?_
        refine wpAny_take (i := 15) (v := undef) rfl (by kernel_rfl) (by kernel_rfl) (by kernel_rfl) (fun _ _ _ h => h) (Or.inr ⟨by kernel_rfl, rfl⟩) ?_
        refine wpAny_take (i := 16) (v := .bool false) rfl (by kernel_rfl) (by kernel_rfl) (by kernel_rfl) (fun _ _ _ h => h) (Or.inl ⟨by kernel_rfl, fun W => by go_simp⟩) ?_
        refine wpAny_take (i := 17) (v := .bool false) rfl (by kernel_rfl) (by kernel_rfl) (by kernel_rfl) (fun _ _ _ h => h) (Or.inl ⟨by kernel_rfl, fun W => by go_simp⟩) ?_
        refine wpAny_done (by kernel_rfl) ?_ _
        go_wp2
        go_ret
        exact ⟨by rw [HW.out]; kernel_rfl, H6.out⟩
  · have hp0' : ((p.length : Int) == 0) = false := by rw [beq_eq_false_iff_ne]; omega
    have HW : Hid (extT old 0 root n p = false) := by rw [HE.out, decide_eq_false hp0]; exact Lib.hid rfl
    go_wp2_with fail
    go_quiet (fail)
    go_wp2
    go_ret

    exact ⟨by rw [HW.out]; rfl, below_drewN H5.out _⟩
end Go.Proofs.YtlchpdjpnabeiaaGreatDoor
