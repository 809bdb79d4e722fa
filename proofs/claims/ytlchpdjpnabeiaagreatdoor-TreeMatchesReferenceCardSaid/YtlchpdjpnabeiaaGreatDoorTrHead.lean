import Derived.Test.YtlchpdjpnabeiaaGreatDoorTrExtC
import Derived.Test.YtlchpdjpnabeiaaGreatDoorTrLink
import Derived.Test.YtlchpdjpnabeiaaGreatDoorDgRefE
import Derived.Test.YtlchpdjpnabeiaaGreatDoorDgTabs
set_option linter.unusedVariables false
namespace Go.Proofs.YtlchpdjpnabeiaaGreatDoor
open Go Go.RowKit

theorem half3 : half 3 = 2 := by rw [half, halfGo, dif_pos (by decide), halfGo, dif_neg (by decide)]
theorem half2 : half 2 = 1 := by rw [half, halfGo, dif_neg (by decide)]
theorem root2 (a b : ByteArray) : rootT [a, b] = dg [sNode, dg [sLeaf, a], dg [sLeaf, b]] := by
  rw [rootT_many (show 2 ≤ [a, b].length from Nat.le_refl 2), show half [a, b].length = 1 from half2]
  show dg [sNode, rootT [a], rootT [b]] = _
  rw [rootT_one, rootT_one]
theorem root3 (a b c : ByteArray) : rootT [a, b, c] = dg [sNode, dg [sNode, dg [sLeaf, a], dg [sLeaf, b]], dg [sLeaf, c]] := by
  rw [rootT_many (show 2 ≤ [a, b, c].length by simp), show half [a, b, c].length = 2 from half3]
  show dg [sNode, rootT [a, b], rootT [c]] = _
  rw [root2, rootT_one]
theorem pathT_one (s : ByteArray) (i : Nat) : pathT [s] i = [] := by rw [pathT, dif_pos (show [s].length ≤ 1 from Nat.le_refl 1)]
theorem path3_2 (a b c : ByteArray) : pathT [a, b, c] 2 = [dg [sNode, dg [sLeaf, a], dg [sLeaf, b]]] := by
  rw [pathT, dif_neg (show ¬ [a, b, c].length ≤ 1 by simp), show half [a, b, c].length = 2 from half3, if_neg (by decide)]
  show pathT [c] 0 ++ [rootT [a, b]] = _
  rw [pathT_one, root2]; rfl
theorem path3_0 (a b c : ByteArray) : pathT [a, b, c] 0 = [dg [sLeaf, b], dg [sLeaf, c]] := by
  rw [pathT, dif_neg (show ¬ [a, b, c].length ≤ 1 by simp), show half [a, b, c].length = 2 from half3, if_pos (by decide)]
  show pathT [a, b] 0 ++ [rootT [c]] = _
  rw [pathT, dif_neg (show ¬ [a, b].length ≤ 1 by simp), show half [a, b].length = 1 from half2, if_pos (by decide)]
  show pathT [a] 0 ++ [rootT [b]] ++ [rootT [c]] = _
  rw [pathT_one, rootT_one, rootT_one]; rfl
theorem link3_2 (a b c : ByteArray) : linkT [a, b, c] 2 true = [dg [sLeaf, c]] := by
  rw [linkT, dif_neg (show ¬ ([a, b, c].length ≤ 1 ∨ 2 = [a, b, c].length) by simp), show half [a, b, c].length = 2 from half3, if_pos (by decide)]
  show linkT [a, b] [a, b].length true ++ [rootT [c]] = _
  rw [link_whole, rootT_one]; rfl
theorem link3_1 (a b c : ByteArray) : linkT [a, b, c] 1 true = [dg [sLeaf, b], dg [sLeaf, c]] := by
  rw [linkT, dif_neg (show ¬ ([a, b, c].length ≤ 1 ∨ 1 = [a, b, c].length) by simp), show half [a, b, c].length = 2 from half3, if_pos (by decide)]
  show linkT [a, b] 1 true ++ [rootT [c]] = _
  rw [linkT, dif_neg (show ¬ ([a, b].length ≤ 1 ∨ 1 = [a, b].length) by simp), show half [a, b].length = 1 from half2, if_pos (by decide)]
  show linkT [a] [a].length true ++ [rootT [b]] ++ [rootT [c]] = _
  rw [link_whole, rootT_one, rootT_one]; rfl
def sA : ByteArray := { data := #[97] }
def sB : ByteArray := { data := #[98] }
def sC : ByteArray := { data := #[99] }
theorem check3_yes : checkT (dg [sNode, dg [sNode, dg [sLeaf, sA], dg [sLeaf, sB]], dg [sLeaf, sC]]) 3 2 sC [dg [sNode, dg [sLeaf, sA], dg [sLeaf, sB]]] = true := by
  have := check_path [sA, sB, sC] 2 (by decide) (by decide)
  rw [root3, path3_2] at this
  exact this
theorem ext3_yes : extT (dg [sLeaf, sA]) 1 (dg [sNode, dg [sNode, dg [sLeaf, sA], dg [sLeaf, sB]], dg [sLeaf, sC]]) 3 [dg [sLeaf, sB], dg [sLeaf, sC]] = true := by
  have := ext_link [sA, sB, sC] 1 (by decide) (by decide)
  rw [show linkR [sA, sB, sC] 1 = linkT [sA, sB, sC] 1 true from rfl, link3_1, root3] at this
  rw [show [sA, sB, sC].take 1 = [sA] from rfl, rootT_one] at this
  exact this
theorem up3_2 (d x : ByteArray) : upT 3 2 d [x] = dg [sNode, x, d] := by
  rw [upT, dif_neg (by decide), half3, if_neg (by decide)]
  show dg [sNode, popV [x], upT 1 0 d []] = _
  rw [upT, dif_pos (by decide)]; rfl
theorem dgne1 : dg [sNode, dg [sNode, dg [sLeaf, sA], dg [sLeaf, sB]], dg [sLeaf, sB]] ≠ dg [sNode, dg [sNode, dg [sLeaf, sA], dg [sLeaf, sB]], dg [sLeaf, sC]] := by decide +kernel
theorem dgne2 : dg [sNode, dg [sNode, dg [sLeaf, sB], dg [sLeaf, sB]], dg [sLeaf, sC]] ≠ dg [sNode, dg [sNode, dg [sLeaf, sA], dg [sLeaf, sB]], dg [sLeaf, sC]] := by decide +kernel
theorem check3_no : checkT (dg [sNode, dg [sNode, dg [sLeaf, sA], dg [sLeaf, sB]], dg [sLeaf, sC]]) 3 2 sB [dg [sNode, dg [sLeaf, sA], dg [sLeaf, sB]]] = false := by
  unfold checkT
  rw [show (3 : Int).toNat = 3 from rfl, show (2 : Int).toNat = 2 from rfl, up3_2, decide_eq_false dgne1, Bool.and_false]
theorem both3_1 (d x y : ByteArray) : bothT 3 1 true d [x, y] = (d, dg [sNode, dg [sNode, d, x], y]) := by
  rw [bothT, dif_neg (by decide), half3, if_pos (by decide)]
  show ((bothT 2 1 true d [x]).1, dg [sNode, (bothT 2 1 true d [x]).2, y]) = _
  rw [bothT, dif_neg (by decide), half2, if_pos (by decide)]
  show ((bothT 1 1 true d []).1, dg [sNode, dg [sNode, (bothT 1 1 true d []).2, x], y]) = _
  rw [bothT, dif_pos (by decide)]; rfl
theorem ext3_no : extT (dg [sLeaf, sB]) 1 (dg [sNode, dg [sNode, dg [sLeaf, sA], dg [sLeaf, sB]], dg [sLeaf, sC]]) 3 [dg [sLeaf, sB], dg [sLeaf, sC]] = false := by
  unfold extT
  rw [show (3 : Int).toNat = 3 from rfl, show (1 : Int).toNat = 1 from rfl, both3_1, if_neg (by decide)]
  simp only
  rw [decide_eq_false dgne2]
  simp only [Bool.and_false]

theorem sameB_refl (l : List ByteArray) : sameB l l = true := decide_eq_true rfl
theorem rootnil_calls (w : World) (hT : Tabs w) : Calls Tryz.prog 10 #[.slice none 0 0] w fun e w' => e = .returned (.string (dg [sEmpty])) ∧ Below w.heap.size w w' := by
  have := root_calls 0 [] _ w rfl (strc_nil w) (by simp) (by simp) hT
  rw [rootT_nil] at this
  exact this
theorem rootlit1_calls (a : ByteArray) (w : World) (ha : a.size ≤ 1099511627776) (hT : Tabs w) :
    Calls Tryz.prog 10 #[.slice (some ⟨w.heap.size, 0, none⟩) 1 1] (w.alloc (.cells #[.string a] 9)) fun e w' => e = .returned (.string (dg [sLeaf, a])) ∧ Below w.heap.size w w' := by
  have hb := (Below.refl w.heap.size w).alloc (Nat.le_refl _) (.cells #[.string a] 9)
  refine (root_calls 1 [a] _ _ rfl (strc_lit w [a] (show 1 ≤ maxLen by decide)) (by simpa using ha) (by simp) (hT.on hb)).mono ?_
  rintro e w' ⟨rfl, h⟩
  exact ⟨by rw [rootT_one], hb.trans (h.mono hb.size)⟩
theorem samelit_calls (v : Value) (xs ys : List ByteArray) (w : World) (hv : IsStrs w v xs) (hl : ys.length ≤ maxLen) :
    Calls Tryz.prog 12 #[v, .slice (some ⟨w.heap.size, 0, none⟩) ys.length ys.length] (w.alloc (.cells (ys.map Value.string).toArray 9)) fun e w' => e = .returned (.bool (sameB xs ys)) ∧ Below w.heap.size w w' := by
  have hb := (Below.refl w.heap.size w).alloc (Nat.le_refl _) (.cells (ys.map Value.string).toArray 9)
  refine (same_calls v _ xs ys _ (hv.on hb) (strs_lit w ys hl)).mono ?_
  rintro e w' ⟨rfl, h⟩
  exact ⟨rfl, hb.trans (h.mono hb.size)⟩
theorem same1_calls (v : Value) (xs : List ByteArray) (a : ByteArray) (w : World) (hv : IsStrs w v xs) :
    Calls Tryz.prog 12 #[v, .slice (some ⟨w.heap.size, 0, none⟩) 1 1] (w.alloc (.cells #[.string a] 9)) fun e w' => e = .returned (.bool (sameB xs [a])) ∧ Below w.heap.size w w' := samelit_calls v xs [a] w hv (show 1 ≤ maxLen by decide)
theorem same2_calls (v : Value) (xs : List ByteArray) (a b : ByteArray) (w : World) (hv : IsStrs w v xs) :
    Calls Tryz.prog 12 #[v, .slice (some ⟨w.heap.size, 0, none⟩) 2 2] (w.alloc (.cells #[.string a, .string b] 9)) fun e w' => e = .returned (.bool (sameB xs [a, b])) ∧ Below w.heap.size w w' := samelit_calls v xs [a, b] w hv (show 2 ≤ maxLen by decide)

theorem abc_size : ∀ s ∈ [sA, sB, sC], s.size ≤ 1099511627776 := by
  intro s hs
  simp only [List.mem_cons, List.not_mem_nil, or_false] at hs
  rcases hs with rfl | rfl | rfl <;> decide
theorem strc_eq {w : World} {v : Value} {l m : List ByteArray} (h : IsStrC w v l) (e : l = m) : IsStrC w v m := e ▸ h
def HeadPost (w : World) (e : Ending) (w' : World) : Prop := e = .returned (.bool true) ∧ Below w.heap.size w w'
set_option maxRecDepth 100000 in
set_option maxHeartbeats 4000000 in
theorem head_calls (w : World) (hT : Tabs w) : Calls Tryz.prog 4 #[] w (HeadPost w) := by
  have HT := Lib.hid hT
  have E1 := Lib.hid (root3 sA sB sC)
  have E2 := Lib.hid (path3_2 sA sB sC)
  have E3 := Lib.hid (path3_0 sA sB sC)
  have E4 := Lib.hid (link3_2 sA sB sC)
  have E5 := Lib.hid (link3_1 sA sB sC)
  have E6 := Lib.hid check3_yes
  have E7 := Lib.hid check3_no
  have E8 := Lib.hid ext3_yes
  have E9 := Lib.hid ext3_no
  have D1 := Lib.hid (dg_size [sLeaf, sA])
  have D2 := Lib.hid (dg_size [sLeaf, sB])
  have D3 := Lib.hid (dg_size [sLeaf, sC])
  have D4 := Lib.hid (dg_size [sNode, dg [sLeaf, sA], dg [sLeaf, sB]])
  have D5 := Lib.hid (dg_size [sNode, dg [sNode, dg [sLeaf, sA], dg [sLeaf, sB]], dg [sLeaf, sC]])
  obtain ⟨rA, hA⟩ : ∃ r, r = dg [sLeaf, sA] := ⟨_, rfl⟩
  obtain ⟨rB, hB0⟩ : ∃ r, r = dg [sLeaf, sB] := ⟨_, rfl⟩
  obtain ⟨rC, hC⟩ : ∃ r, r = dg [sLeaf, sC] := ⟨_, rfl⟩
  rw [← hA] at E1 E2 E6 E7 E8 E9 D1 D4 D5
  rw [← hB0] at E1 E2 E3 E5 E6 E7 E8 E9 D2 D4 D5
  rw [← hC] at E1 E3 E4 E5 E6 E7 E8 E9 D3 D5
  obtain ⟨ab, hab⟩ : ∃ r, r = dg [sNode, rA, rB] := ⟨_, rfl⟩
  rw [← hab] at E1 E2 E6 E7 E8 E9 D4 D5
  obtain ⟨R, hR⟩ : ∃ r, r = dg [sNode, ab, rC] := ⟨_, rfl⟩
  rw [← hR] at E1 E6 E7 E8 E9 D5
  have HA := Lib.hid hA
  have HB := Lib.hid hB0
  have HC := Lib.hid hC
  have HAB := Lib.hid hab
  have HR := Lib.hid hR
  clear hA hB0 hC hab hR hT
  have H0 : Hid (Below w.heap.size w w) := Lib.hid (Below.refl w.heap.size w)
  go_enter Tryz.func4, Tryz.ntmps4
  go_wp2_with fail
  refine (rootlit1_calls sA w (by decide) (HT.out.on H0.out)).mono ?_
  rintro e w1 ⟨rfl, hB⟩
  have H1 := Lib.hid (H0.out.trans (hB.mono H0.out.size))
  clear hB H0
  rw [← HA.out]
  go_wp2_with fail
  refine (rootlit1_calls sB w1 (by decide) (HT.out.on H1.out)).mono ?_
  rintro e w2 ⟨rfl, hB⟩
  have H2 := Lib.hid (H1.out.trans (hB.mono H1.out.size))
  clear hB H1
  rw [← HB.out]
  go_wp2_with fail
  refine (rootlit1_calls sC w2 (by decide) (HT.out.on H2.out)).mono ?_
  rintro e w3 ⟨rfl, hB⟩
  have H3 := Lib.hid (H2.out.trans (hB.mono H2.out.size))
  clear hB H2
  rw [← HC.out]
  have h3l := (Below.refl w3.heap.size w3).alloc (Nat.le_refl _) (.cells #[.string sA, .string sB, .string sC] 9)
  have hL3 : IsStrC (w3.alloc (.cells #[.string sA, .string sB, .string sC] 9)) (.slice (some ⟨w3.heap.size, 0, none⟩) 3 3) [sA, sB, sC] := strc_lit w3 [sA, sB, sC] (show 3 ≤ maxLen by decide)
  have HL3 := Lib.hid hL3
  have H3 := Lib.hid (H3.out.trans (h3l.mono H3.out.size))
  clear hL3 h3l
  go_wp2_with fail
  refine (path_ok [sA, sB, sC] _ 2 _ HL3.out abc_size (by decide) (by decide) (HT.out.on H3.out)).mono ?_
  rintro e w4 ⟨v1, rfl, hp, hB⟩
  have H4 := Lib.hid (H3.out.trans (hB.mono H3.out.size))
  have HL4 := Lib.hid (HL3.out.on hB)
  have HV14 := Lib.hid (strc_eq hp E2.out)
  clear hp
  clear hB H3 HL3
  go_wp2_with fail
  refine (path_ok [sA, sB, sC] _ 0 _ HL4.out abc_size (by decide) (by decide) (HT.out.on H4.out)).mono ?_
  rintro e w5 ⟨v2, rfl, hp, hB⟩
  have H5 := Lib.hid (H4.out.trans (hB.mono H4.out.size))
  have HL5 := Lib.hid (HL4.out.on hB)
  have HV15 := Lib.hid (HV14.out.on hB)
  have HV25 := Lib.hid (strc_eq hp E3.out)
  clear hp
  clear hB H4 HL4 HV14
  go_wp2_with fail
  refine (link_ok [sA, sB, sC] _ 2 _ HL5.out abc_size (by decide) (by decide) (by decide) (HT.out.on H5.out)).mono ?_
  rintro e w6 ⟨v3, rfl, hp, hB⟩
  have H6 := Lib.hid (H5.out.trans (hB.mono H5.out.size))
  have HL6 := Lib.hid (HL5.out.on hB)
  have HV16 := Lib.hid (HV15.out.on hB)
  have HV26 := Lib.hid (HV25.out.on hB)
  have HV36 := Lib.hid (strc_eq hp E4.out)
  clear hp
  clear hB H5 HL5 HV15 HV25
  go_wp2_with fail
  refine (link_ok [sA, sB, sC] _ 1 _ HL6.out abc_size (by decide) (by decide) (by decide) (HT.out.on H6.out)).mono ?_
  rintro e w7 ⟨v4, rfl, hp, hB⟩
  have H7 := Lib.hid (H6.out.trans (hB.mono H6.out.size))
  have HL7 := Lib.hid (HL6.out.on hB)
  have HV17 := Lib.hid (HV16.out.on hB)
  have HV27 := Lib.hid (HV26.out.on hB)
  have HV37 := Lib.hid (HV36.out.on hB)
  have HV47 := Lib.hid (strc_eq hp E5.out)
  clear hp
  clear hB H6 HL6 HV16 HV26 HV36
  go_wp2_with fail
  refine (path_bad [sA, sB, sC] _ 3 _ HL7.out (by decide) (by decide)).mono ?_
  rintro e w8 ⟨rfl, rfl⟩
  have H8 := Lib.hid H7.out
  have HL8 := Lib.hid HL7.out
  have HV18 := Lib.hid HV17.out
  have HV28 := Lib.hid HV27.out
  have HV38 := Lib.hid HV37.out
  have HV48 := Lib.hid HV47.out
  clear H7 HL7 HV17 HV27 HV37 HV47
  go_wp2_with fail
  refine (lit3_calls sNode rA rB w8 (by decide) (by have := D1.out; omega) (by have := D2.out; omega) (HT.out.on H8.out)).mono ?_
  rintro e w9 ⟨rfl, hB⟩
  have H9 := Lib.hid (H8.out.trans (hB.mono H8.out.size))
  have HL9 := Lib.hid (HL8.out.on hB)
  have HV19 := Lib.hid (HV18.out.on hB)
  have HV29 := Lib.hid (HV28.out.on hB)
  have HV39 := Lib.hid (HV38.out.on hB)
  have HV49 := Lib.hid (HV48.out.on hB)
  clear hB H8 HL8 HV18 HV28 HV38 HV48
  rw [← HAB.out]
  go_wp2_with fail
  refine (rootnil_calls w9 (HT.out.on H9.out)).mono ?_
  rintro e w10 ⟨rfl, hB⟩
  have H10 := Lib.hid (H9.out.trans (hB.mono H9.out.size))
  have HL10 := Lib.hid (HL9.out.on hB)
  have HV110 := Lib.hid (HV19.out.on hB)
  have HV210 := Lib.hid (HV29.out.on hB)
  have HV310 := Lib.hid (HV39.out.on hB)
  have HV410 := Lib.hid (HV49.out.on hB)
  clear hB H9 HL9 HV19 HV29 HV39 HV49
  go_wp2_with fail
  refine (lit1_calls sEmpty w10 (by decide) (HT.out.on H10.out)).mono ?_
  rintro e w11 ⟨rfl, hB⟩
  have H11 := Lib.hid (H10.out.trans (hB.mono H10.out.size))
  have HL11 := Lib.hid (HL10.out.on hB)
  have HV111 := Lib.hid (HV110.out.on hB)
  have HV211 := Lib.hid (HV210.out.on hB)
  have HV311 := Lib.hid (HV310.out.on hB)
  have HV411 := Lib.hid (HV410.out.on hB)
  clear hB H10 HL10 HV110 HV210 HV310 HV410
  go_wp2_with fail
  refine (lit2_calls sLeaf sA w11 (by decide) (by decide) (HT.out.on H11.out)).mono ?_
  rintro e w12 ⟨rfl, hB⟩
  have H12 := Lib.hid (H11.out.trans (hB.mono H11.out.size))
  have HL12 := Lib.hid (HL11.out.on hB)
  have HV112 := Lib.hid (HV111.out.on hB)
  have HV212 := Lib.hid (HV211.out.on hB)
  have HV312 := Lib.hid (HV311.out.on hB)
  have HV412 := Lib.hid (HV411.out.on hB)
  clear hB H11 HL11 HV111 HV211 HV311 HV411
  rw [← HA.out]
  go_wp2_with fail
  refine (root_calls 3 [sA, sB, sC] _ w12 rfl HL12.out abc_size (by decide) (HT.out.on H12.out)).mono ?_
  rintro e w13 ⟨rfl, hB⟩
  have H13 := Lib.hid (H12.out.trans (hB.mono H12.out.size))
  have HL13 := Lib.hid (HL12.out.on hB)
  have HV113 := Lib.hid (HV112.out.on hB)
  have HV213 := Lib.hid (HV212.out.on hB)
  have HV313 := Lib.hid (HV312.out.on hB)
  have HV413 := Lib.hid (HV412.out.on hB)
  clear hB H12 HL12 HV112 HV212 HV312 HV412
  rw [E1.out]
  go_wp2_with fail
  refine (lit3_calls sNode ab rC w13 (by decide) (by have := D4.out; omega) (by have := D3.out; omega) (HT.out.on H13.out)).mono ?_
  rintro e w14 ⟨rfl, hB⟩
  have H14 := Lib.hid (H13.out.trans (hB.mono H13.out.size))
  have HL14 := Lib.hid (HL13.out.on hB)
  have HV114 := Lib.hid (HV113.out.on hB)
  have HV214 := Lib.hid (HV213.out.on hB)
  have HV314 := Lib.hid (HV313.out.on hB)
  have HV414 := Lib.hid (HV413.out.on hB)
  clear hB H13 HL13 HV113 HV213 HV313 HV413
  rw [← HR.out]
  go_wp2_with fail
  refine (same1_calls v1 [ab] ab w14 HV114.out.strs).mono ?_
  rintro e w15 ⟨rfl, hB⟩
  have H15 := Lib.hid (H14.out.trans (hB.mono H14.out.size))
  have HL15 := Lib.hid (HL14.out.on hB)
  have HV115 := Lib.hid (HV114.out.on hB)
  have HV215 := Lib.hid (HV214.out.on hB)
  have HV315 := Lib.hid (HV314.out.on hB)
  have HV415 := Lib.hid (HV414.out.on hB)
  clear hB H14 HL14 HV114 HV214 HV314 HV414
  rw [sameB_refl]
  go_wp2_with fail
  refine (same2_calls v2 [rB, rC] rB rC w15 HV215.out.strs).mono ?_
  rintro e w16 ⟨rfl, hB⟩
  have H16 := Lib.hid (H15.out.trans (hB.mono H15.out.size))
  have HL16 := Lib.hid (HL15.out.on hB)
  have HV116 := Lib.hid (HV115.out.on hB)
  have HV216 := Lib.hid (HV215.out.on hB)
  have HV316 := Lib.hid (HV315.out.on hB)
  have HV416 := Lib.hid (HV415.out.on hB)
  clear hB H15 HL15 HV115 HV215 HV315 HV415
  rw [sameB_refl]
  go_wp2_with fail
  refine (same1_calls v3 [rC] rC w16 HV316.out.strs).mono ?_
  rintro e w17 ⟨rfl, hB⟩
  have H17 := Lib.hid (H16.out.trans (hB.mono H16.out.size))
  have HL17 := Lib.hid (HL16.out.on hB)
  have HV117 := Lib.hid (HV116.out.on hB)
  have HV217 := Lib.hid (HV216.out.on hB)
  have HV317 := Lib.hid (HV316.out.on hB)
  have HV417 := Lib.hid (HV416.out.on hB)
  clear hB H16 HL16 HV116 HV216 HV316 HV416
  rw [sameB_refl]
  go_wp2_with fail
  refine (same2_calls v4 [rB, rC] rB rC w17 HV417.out.strs).mono ?_
  rintro e w18 ⟨rfl, hB⟩
  have H18 := Lib.hid (H17.out.trans (hB.mono H17.out.size))
  have HL18 := Lib.hid (HL17.out.on hB)
  have HV118 := Lib.hid (HV117.out.on hB)
  have HV218 := Lib.hid (HV217.out.on hB)
  have HV318 := Lib.hid (HV317.out.on hB)
  have HV418 := Lib.hid (HV417.out.on hB)
  clear hB H17 HL17 HV117 HV217 HV317 HV417
  rw [sameB_refl]
  go_wp2_with fail
  refine (root_calls 3 [sA, sB, sC] _ w18 rfl HL18.out abc_size (by decide) (HT.out.on H18.out)).mono ?_
  rintro e w19 ⟨rfl, hB⟩
  have H19 := Lib.hid (H18.out.trans (hB.mono H18.out.size))
  have HL19 := Lib.hid (HL18.out.on hB)
  have HV119 := Lib.hid (HV118.out.on hB)
  have HV219 := Lib.hid (HV218.out.on hB)
  have HV319 := Lib.hid (HV318.out.on hB)
  have HV419 := Lib.hid (HV418.out.on hB)
  clear hB H18 HL18 HV118 HV218 HV318 HV418
  rw [E1.out]
  go_wp2_with fail
  refine (check_calls R 3 2 sC v1 [ab] w19 HV119.out (by simp) (by simp; have := D4.out; omega) (by decide) (HT.out.on H19.out)).mono ?_
  rintro e w20 ⟨rfl, hB⟩
  have H20 := Lib.hid (H19.out.trans (hB.mono H19.out.size))
  have HL20 := Lib.hid (HL19.out.on hB)
  have HV120 := Lib.hid (HV119.out.on hB)
  have HV220 := Lib.hid (HV219.out.on hB)
  have HV320 := Lib.hid (HV319.out.on hB)
  have HV420 := Lib.hid (HV419.out.on hB)
  clear hB H19 HL19 HV119 HV219 HV319 HV419
  rw [E6.out]
  go_wp2_with fail
  refine (root_calls 3 [sA, sB, sC] _ w20 rfl HL20.out abc_size (by decide) (HT.out.on H20.out)).mono ?_
  rintro e w21 ⟨rfl, hB⟩
  have H21 := Lib.hid (H20.out.trans (hB.mono H20.out.size))
  have HL21 := Lib.hid (HL20.out.on hB)
  have HV121 := Lib.hid (HV120.out.on hB)
  have HV221 := Lib.hid (HV220.out.on hB)
  have HV321 := Lib.hid (HV320.out.on hB)
  have HV421 := Lib.hid (HV420.out.on hB)
  clear hB H20 HL20 HV120 HV220 HV320 HV420
  rw [E1.out]
  go_wp2_with fail
  refine (check_calls R 3 2 sB v1 [ab] w21 HV121.out (by simp) (by simp; have := D4.out; omega) (by decide) (HT.out.on H21.out)).mono ?_
  rintro e w22 ⟨rfl, hB⟩
  have H22 := Lib.hid (H21.out.trans (hB.mono H21.out.size))
  have HL22 := Lib.hid (HL21.out.on hB)
  have HV122 := Lib.hid (HV121.out.on hB)
  have HV222 := Lib.hid (HV221.out.on hB)
  have HV322 := Lib.hid (HV321.out.on hB)
  have HV422 := Lib.hid (HV421.out.on hB)
  clear hB H21 HL21 HV121 HV221 HV321 HV421
  rw [E7.out]
  go_wp2_with fail
  refine (root_calls 3 [sA, sB, sC] _ w22 rfl HL22.out abc_size (by decide) (HT.out.on H22.out)).mono ?_
  rintro e w23 ⟨rfl, hB⟩
  have H23 := Lib.hid (H22.out.trans (hB.mono H22.out.size))
  have HL23 := Lib.hid (HL22.out.on hB)
  have HV123 := Lib.hid (HV122.out.on hB)
  have HV223 := Lib.hid (HV222.out.on hB)
  have HV323 := Lib.hid (HV322.out.on hB)
  have HV423 := Lib.hid (HV422.out.on hB)
  clear hB H22 HL22 HV122 HV222 HV322 HV422
  rw [E1.out]
  go_wp2_with fail
  refine (ext_calls rA 1 R 3 v4 [rB, rC] w23 HV423.out (by simp) (by simp; have := D2.out; have := D3.out; omega) (by have := D1.out; omega) (by have := D5.out; omega) (HT.out.on H23.out)).mono ?_
  rintro e w24 ⟨rfl, hB⟩
  have H24 := Lib.hid (H23.out.trans (hB.mono H23.out.size))
  have HL24 := Lib.hid (HL23.out.on hB)
  have HV124 := Lib.hid (HV123.out.on hB)
  have HV224 := Lib.hid (HV223.out.on hB)
  have HV324 := Lib.hid (HV323.out.on hB)
  have HV424 := Lib.hid (HV423.out.on hB)
  clear hB H23 HL23 HV123 HV223 HV323 HV423
  rw [E8.out]
  go_wp2_with fail
  refine (root_calls 3 [sA, sB, sC] _ w24 rfl HL24.out abc_size (by decide) (HT.out.on H24.out)).mono ?_
  rintro e w25 ⟨rfl, hB⟩
  have H25 := Lib.hid (H24.out.trans (hB.mono H24.out.size))
  have HL25 := Lib.hid (HL24.out.on hB)
  have HV125 := Lib.hid (HV124.out.on hB)
  have HV225 := Lib.hid (HV224.out.on hB)
  have HV325 := Lib.hid (HV324.out.on hB)
  have HV425 := Lib.hid (HV424.out.on hB)
  clear hB H24 HL24 HV124 HV224 HV324 HV424
  rw [E1.out]
  go_wp2_with fail
  refine (ext_calls rB 1 R 3 v4 [rB, rC] w25 HV425.out (by simp) (by simp; have := D2.out; have := D3.out; omega) (by have := D2.out; omega) (by have := D5.out; omega) (HT.out.on H25.out)).mono ?_
  rintro e w26 ⟨rfl, hB⟩
  have H26 := Lib.hid (H25.out.trans (hB.mono H25.out.size))
  have HL26 := Lib.hid (HL25.out.on hB)
  have HV126 := Lib.hid (HV125.out.on hB)
  have HV226 := Lib.hid (HV225.out.on hB)
  have HV326 := Lib.hid (HV325.out.on hB)
  have HV426 := Lib.hid (HV425.out.on hB)
  clear hB H25 HL25 HV125 HV225 HV325 HV425
  rw [E9.out]
  go_wp2
  go_ret
  exact ⟨rfl, H26.out⟩
def fewL (l : List ByteArray) : Bool := decide (l.length ≤ 20) && fewB l 100
theorem few02_calls (v : Value) (l : List ByteArray) (w : World) (hv : IsStrC w v l) : Calls Tryz.prog 5 #[v] w fun e w' => e = .returned (.bool (fewL l)) ∧ w' = w := by
  have HV := Lib.hid hv
  obtain ⟨ao, cap, rfl, hlc, hmax, hcells⟩ := hv
  clear hcells hmax hlc
  by_cases hl : l.length ≤ 20
  · have HF : Hid (fewL l = fewB l 100) := Lib.hid (by unfold fewL; rw [decide_eq_true hl, Bool.true_and])
    go_enter Tryz.func5, Tryz.ntmps5
    go_wp2_with fail
    refine (few_calls _ l w HV.out.strs 100).mono ?_
    rintro e w1 ⟨rfl, rfl⟩
    generalize fewB l 100 = f at *
    go_wp2
    go_ret
    exact ⟨by rw [HF.out]; rfl, rfl⟩
  · have HF : Hid (fewL l = false) := Lib.hid (by unfold fewL; rw [decide_eq_false hl, Bool.false_and])
    have hd : decide ((l.length : Int) ≤ 20) = false := decide_eq_false (by omega)
    go_enter Tryz.func5, Tryz.ntmps5
    go_wp2
    go_ret
    exact ⟨by rw [HF.out]; rfl, rfl⟩
end Go.Proofs.YtlchpdjpnabeiaaGreatDoor
