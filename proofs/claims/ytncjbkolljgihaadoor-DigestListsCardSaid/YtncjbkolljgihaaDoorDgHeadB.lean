import Derived.Test.YtncjbkolljgihaaDoorDgHead
set_option linter.unusedVariables false
namespace Go.Proofs.YtncjbkolljgihaaDoor
open Go Go.RowKit

theorem chain_x0 (w : World) (hT : Tabs w) : Calls Tryd.prog 16 #[.string { data := #[120] }, .int .i64 0] w fun e w' => e = .returned (.string { data := #[120] }) ∧ Below w.heap.size w w' :=
  chain_calls { data := #[120] } (by decide) 0 w hT
theorem chain_x2 (w : World) (hT : Tabs w) : Calls Tryd.prog 16 #[.string { data := #[120] }, .int .i64 2] w fun e w' => e = .returned (.string (sumS (sumS { data := #[120] }))) ∧ Below w.heap.size w w' :=
  chain_calls { data := #[120] } (by decide) 2 w hT
set_option maxHeartbeats 1000000 in
set_option maxRecDepth 100000 in
theorem head01_calls (w : World) (hT : Tabs w) : Calls Tryd.prog 10 #[] w fun e w' => e = .returned (.bool true) ∧ Below w.heap.size w w' := by
  have HT := Lib.hid hT
  clear hT
  go_enter Tryd.func10, Tryd.ntmps10
  go_wp2_with fail
  refine (is_yes w).mono ?_
  rintro e w1 ⟨rfl, h1⟩
  go_wp2_with fail
  refine (is_no1 w1).mono ?_
  rintro e w2 ⟨rfl, h2⟩
  have H2 := Lib.hid (h1.trans (h2.mono h1.size))
  clear h1 h2
  go_wp2_with fail
  refine (is_no2 w2).mono ?_
  rintro e w3 ⟨rfl, h3⟩
  have H3 := Lib.hid (H2.out.trans (h3.mono H2.out.size))
  clear h3 H2
  go_wp2_with fail
  have hS : IsStrs (w3.alloc (.cells #[.string { data := #[97] }, .string { data := #[98, 99] }] 9)) (.slice (some ⟨w3.heap.size, 0, none⟩) 2 2) [{ data := #[97] }, { data := #[98, 99] }] := by
    refine ⟨some ⟨w3.heap.size, 0, none⟩, 2, rfl, by decide, fun i hi => ⟨w3.heap.size, 0, rfl, by rw [World.size_alloc]; omega, ?_⟩⟩
    rw [World.cell?_alloc_new]
    match i, hi with
    | 0, _ => rfl
    | 1, _ => rfl
  have H4 : Hid (Below w.heap.size w (w3.alloc (.cells #[.string { data := #[97] }, .string { data := #[98, 99] }] 9))) := Lib.hid (H3.out.alloc H3.out.size _)
  refine (list_calls _ _ _ hS (by simp only [joinB, listsOf, List.map_cons, List.map_nil, joinL]; rw [show ([97] : List UInt8).length = 1 from rfl, show ([98, 99] : List UInt8).length = 2 from rfl, Lib.decDigits_one (by decide), Lib.decDigits_one (by decide)]; decide) (HT.out.on H4.out)).mono ?_
  rintro e w4 ⟨rfl, h4⟩
  rw [join_ex]
  have H5 := Lib.hid (H4.out.trans (h4.mono H4.out.size))
  clear hS H4 H3 h4
  have hn1 := sum_ne (a := { data := #[] }) (b := { data := #[0] }) (by decide) (by decide) (by decide)
  have hn2 := sum_ne (a := { data := #[1] }) (b := { data := #[] }) (by decide) (by decide) (by decide)
  have hsz : (sumS { data := #[120] }).size ≤ 4611686018427387904 := by rw [sumS_size]; decide
  go_wp2_with fail
  refine (sum_calls { data := #[49, 58, 97, 50, 58, 98, 99] } (by decide) w4 (HT.out.on H5.out)).mono ?_
  rintro e w5 ⟨rfl, h5⟩
  have H6 := Lib.hid (H5.out.trans (h5.mono H5.out.size))
  clear h5 H5
  go_wp2_with fail
  refine (chain_x0 w5 (HT.out.on H6.out)).mono ?_
  rintro e w6 ⟨rfl, h6⟩
  have H7 := Lib.hid (H6.out.trans (h6.mono H6.out.size))
  clear h6 H6
  go_wp2_with fail
  refine (chain_x2 w6 (HT.out.on H7.out)).mono ?_
  rintro e w7 ⟨rfl, h7⟩
  have H8 := Lib.hid (H7.out.trans (h7.mono H7.out.size))
  clear h7 H7
  go_wp2_with fail
  refine (sum_calls { data := #[120] } (by decide) w7 (HT.out.on H8.out)).mono ?_
  rintro e w8 ⟨rfl, h8⟩
  have H9 := Lib.hid (H8.out.trans (h8.mono H8.out.size))
  clear h8 H8
  go_wp2_with fail
  refine (sum_calls (sumS { data := #[120] }) hsz w8 (HT.out.on H9.out)).mono ?_
  rintro e w9 ⟨rfl, h9⟩
  have H10 := Lib.hid (H9.out.trans (h9.mono H9.out.size))
  clear h9 H9
  go_wp2_with fail
  refine (sum_calls { data := #[] } (by decide) w9 (HT.out.on H10.out)).mono ?_
  rintro e w10 ⟨rfl, h10⟩
  have H11 := Lib.hid (H10.out.trans (h10.mono H10.out.size))
  clear h10 H10
  go_wp2_with fail
  refine (sum_calls { data := #[0] } (by decide) w10 (HT.out.on H11.out)).mono ?_
  rintro e w11 ⟨rfl, h11⟩
  have H12 := Lib.hid (H11.out.trans (h11.mono H11.out.size))
  clear h11 H11
  go_wp2_with fail
  refine (sum_calls { data := #[1] } (by decide) w11 (HT.out.on H12.out)).mono ?_
  rintro e w12 ⟨rfl, h12⟩
  have H13 := Lib.hid (H12.out.trans (h12.mono H12.out.size))
  clear h12 H12
  go_wp2_with fail
  refine (sum_calls { data := #[] } (by decide) w12 (HT.out.on H13.out)).mono ?_
  rintro e w13 ⟨rfl, h13⟩
  have H14 := Lib.hid (H13.out.trans (h13.mono H13.out.size))
  clear h13 H13
  go_wp2
  go_ret
  exact ⟨rfl, H14.out⟩
end Go.Proofs.YtncjbkolljgihaaDoor
