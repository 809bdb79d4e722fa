import Derived.Test.YtlchpdjpnabeiaaGreatDoorTrBoth
set_option linter.unusedVariables false
namespace Go.Proofs.YtlchpdjpnabeiaaGreatDoor
open Go Go.RowKit

set_option maxHeartbeats 1000000 in
theorem ext_bad (old : ByteArray) (m : Int) (root : ByteArray) (n : Int) (v : Value) (p : List ByteArray) (w : World) (hv : IsStrC w v p) (hl : p.length ≤ 1099511627776) (hs : ∀ s ∈ p, s.size ≤ 1099511627776) (hos : old.size ≤ 1099511627776) (hrs : root.size ≤ 1099511627776) (hb : ¬ (0 ≤ m ∧ m ≤ n ∧ n ≤ 1000000)) :
    Calls Tryz.prog 15 #[.string old, .int .i64 m, .string root, .int .i64 n, v] w fun e w' => e = .returned (.bool false) ∧ Below w.heap.size w w' := by
  have HV := Lib.hid hv
  have HS := Lib.hid hs
  clear hv hs
  by_cases h1 : m < 0
  · go_enter Tryz.func15, Tryz.ntmps15
    go_wp2_with fail
    have hb1 := (Below.refl w.heap.size w).alloc (Nat.le_refl _) (.cells #[.string old] 9)
    refine (clone_calls v p _ (HV.out.on hb1) hl).mono ?_
    rintro e w2 ⟨v', rfl, ho, h2⟩
    have H12 := Lib.hid h2
    have H2 := Lib.hid (hb1.trans (h2.mono hb1.size))
    have hsc := ho.strc
    obtain ⟨ao, cap, rfl, hlc, hcm, hcells⟩ := hsc
    have HO := Lib.hid ho
    clear ho h2 hcells hb1
    go_wp2
    go_ret
    exact ⟨rfl, H2.out.alloc H2.out.size _⟩
  · by_cases h2 : n < m
    · go_enter Tryz.func15, Tryz.ntmps15
      go_wp2_with fail
      have hb1 := (Below.refl w.heap.size w).alloc (Nat.le_refl _) (.cells #[.string old] 9)
      refine (clone_calls v p _ (HV.out.on hb1) hl).mono ?_
      rintro e w2 ⟨v', rfl, ho, h2⟩
      have H12 := Lib.hid h2
      have H2 := Lib.hid (hb1.trans (h2.mono hb1.size))
      have hsc := ho.strc
      obtain ⟨ao, cap, rfl, hlc, hcm, hcells⟩ := hsc
      have HO := Lib.hid ho
      clear ho h2 hcells hb1
      go_wp2
      go_ret
      exact ⟨rfl, H2.out.alloc H2.out.size _⟩
    · have h3 : (1000000 : Int) < n := by omega
      go_enter Tryz.func15, Tryz.ntmps15
      go_wp2_with fail
      have hb1 := (Below.refl w.heap.size w).alloc (Nat.le_refl _) (.cells #[.string old] 9)
      refine (clone_calls v p _ (HV.out.on hb1) hl).mono ?_
      rintro e w2 ⟨v', rfl, ho, h2⟩
      have H12 := Lib.hid h2
      have H2 := Lib.hid (hb1.trans (h2.mono hb1.size))
      have hsc := ho.strc
      obtain ⟨ao, cap, rfl, hlc, hcm, hcells⟩ := hsc
      have HO := Lib.hid ho
      clear ho h2 hcells hb1
      go_wp2
      go_ret
      exact ⟨rfl, H2.out.alloc H2.out.size _⟩
set_option maxHeartbeats 1000000 in
theorem ext_improper (old : ByteArray) (m : Int) (root : ByteArray) (n : Int) (v : Value) (p : List ByteArray) (w : World) (hv : IsStrC w v p) (hl : p.length ≤ 1099511627776) (hs : ∀ s ∈ p, s.size ≤ 1099511627776) (hos : old.size ≤ 1099511627776) (hrs : root.size ≤ 1099511627776) (h1 : 0 ≤ m) (h2 : m ≤ n) (h3 : n ≤ 1000000) (hp : p.all isS = false) :
    Calls Tryz.prog 15 #[.string old, .int .i64 m, .string root, .int .i64 n, v] w fun e w' => e = .returned (.bool false) ∧ Below w.heap.size w w' := by
  have HV := Lib.hid hv
  have HS := Lib.hid hs
  clear hv hs
  have HP := Lib.hid hp
  clear hp
  have hd1 : decide (m < 0) = false := decide_eq_false (by omega)
  have hd2 : decide (n < m) = false := decide_eq_false (by omega)
  have hd3 : decide ((1000000 : Int) < n) = false := decide_eq_false (by omega)
  go_enter Tryz.func15, Tryz.ntmps15
  go_wp2_with fail
  have hb1 := (Below.refl w.heap.size w).alloc (Nat.le_refl _) (.cells #[.string old] 9)
  refine (clone_calls v p _ (HV.out.on hb1) hl).mono ?_
  rintro e w2 ⟨v', rfl, ho, h2⟩
  have H12 := Lib.hid h2
  have H2 := Lib.hid (hb1.trans (h2.mono hb1.size))
  have hsc := ho.strc
  obtain ⟨ao, cap, rfl, hlc, hcm, hcells⟩ := hsc
  have HO := Lib.hid ho
  clear ho h2 hcells hb1
  go_wp2_with fail
  have hb3 := H2.out.alloc H2.out.size (.cells #[.slice ao p.length cap] 41)
  have hv3 : IsStrC (w2.alloc (.cells #[.slice ao p.length cap] 41)) (.slice ao p.length cap) p := HO.out.strc.on ((Below.refl _ _).alloc (Nat.le_refl _) _)
  refine (proper_calls _ p _ hv3 HS.out).mono ?_
  rintro e w4 ⟨rfl, h4⟩
  rw [HP.out]
  have H43 := Lib.hid h4
  have H4 := Lib.hid (hb3.trans (h4.mono hb3.size))
  clear h4 hb3 hv3
  go_wp2
  go_ret
  exact ⟨rfl, H4.out⟩
set_option maxHeartbeats 1000000 in
theorem ext_improper2 (old : ByteArray) (m : Int) (root : ByteArray) (n : Int) (v : Value) (p : List ByteArray) (w : World) (hv : IsStrC w v p) (hl : p.length ≤ 1099511627776) (hs : ∀ s ∈ p, s.size ≤ 1099511627776) (hos : old.size ≤ 1099511627776) (hrs : root.size ≤ 1099511627776) (h1 : 0 ≤ m) (h2 : m ≤ n) (h3 : n ≤ 1000000) (hp : p.all isS = true) (hq : [old, root].all isS = false) :
    Calls Tryz.prog 15 #[.string old, .int .i64 m, .string root, .int .i64 n, v] w fun e w' => e = .returned (.bool false) ∧ Below w.heap.size w w' := by
  have HV := Lib.hid hv
  have HS := Lib.hid hs
  clear hv hs
  have HP := Lib.hid hp
  have HQ := Lib.hid hq
  clear hp hq
  have hd1 : decide (m < 0) = false := decide_eq_false (by omega)
  have hd2 : decide (n < m) = false := decide_eq_false (by omega)
  have hd3 : decide ((1000000 : Int) < n) = false := decide_eq_false (by omega)
  go_enter Tryz.func15, Tryz.ntmps15
  go_wp2_with fail
  have hb1 := (Below.refl w.heap.size w).alloc (Nat.le_refl _) (.cells #[.string old] 9)
  refine (clone_calls v p _ (HV.out.on hb1) hl).mono ?_
  rintro e w2 ⟨v', rfl, ho, h2⟩
  have H12 := Lib.hid h2
  have H2 := Lib.hid (hb1.trans (h2.mono hb1.size))
  have hsc := ho.strc
  obtain ⟨ao, cap, rfl, hlc, hcm, hcells⟩ := hsc
  have HO := Lib.hid ho
  clear ho h2 hcells hb1
  go_wp2_with fail
  have hb3 := H2.out.alloc H2.out.size (.cells #[.slice ao p.length cap] 41)
  have hv3 : IsStrC (w2.alloc (.cells #[.slice ao p.length cap] 41)) (.slice ao p.length cap) p := HO.out.strc.on ((Below.refl _ _).alloc (Nat.le_refl _) _)
  refine (proper_calls _ p _ hv3 HS.out).mono ?_
  rintro e w4 ⟨rfl, h4⟩
  rw [HP.out]
  have H43 := Lib.hid h4
  have H4 := Lib.hid (hb3.trans (h4.mono hb3.size))
  clear h4 hb3 hv3
  have hxl : (w.alloc (.cells #[.string old] 9)).heap.size = w.heap.size + 1 := World.size_alloc ..
  have hxc : w4.cell? ⟨w.heap.size, 0, none⟩ = some (.string old) := by
    have e2 := H12.out.size
    rw [hxl] at e2
    rw [World.cell?_of_block (H43.out.block w.heap.size (by rw [World.size_alloc]; omega)), World.cell?_of_block (heap_alloc_old w2 _ (show w.heap.size < w2.heap.size by omega)), World.cell?_of_block (H12.out.block w.heap.size (by rw [hxl]; omega)), World.cell?_alloc_new]
    rfl
  go_wp2_with fail
  have hb5 := H4.out.alloc H4.out.size (.cells #[.string old, .string root] 9)
  refine (proper_calls _ [old, root] _ (strc_lit w4 [old, root] (show 2 ≤ maxLen by decide)) (by simp; exact ⟨hos, hrs⟩)).mono ?_
  rintro e w5 ⟨rfl, h5⟩
  have H54 : Hid (Below w4.heap.size w4 w5) := Lib.hid (((Below.refl w4.heap.size w4).alloc (Nat.le_refl _) _).trans (h5.mono (by rw [World.size_alloc]; omega)))
  have H5 := Lib.hid (H4.out.trans (H54.out.mono H4.out.size))
  have hx5 : w5.cell? ⟨w.heap.size, 0, none⟩ = some (.string old) := (World.cell?_of_block (H54.out.block w.heap.size (World.block_lt_of_cell? w4 _ hxc))).trans hxc
  clear h5 hb5 hxc hxl
  rw [HQ.out]
  go_wp2
  go_ret
  exact ⟨rfl, H5.out⟩
end Go.Proofs.YtlchpdjpnabeiaaGreatDoor
